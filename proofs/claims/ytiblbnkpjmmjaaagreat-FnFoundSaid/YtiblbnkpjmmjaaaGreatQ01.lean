/- -/
import Derived.Conc.Own
import Derived.Conc.Events
set_option maxRecDepth 100000
set_option maxHeartbeats 16000000
set_option linter.all false
namespace Go.Proofs.YtiblbnkpjmmjaaaGreat
abbrev Bl:=Nat→Option Nat
def Bl.Le (β γ:Bl):Prop:=∀ k x,β k=some x→γ k=some x
theorem Bl.Le.refl (β:Bl):Bl.Le β β:=fun _ _ h=>h
theorem Bl.Le.trans {β γ δ:Bl} (h:Bl.Le β γ) (k:Bl.Le γ δ):Bl.Le β δ:=fun a x e=>k a x (h a x e)
structure Lim where
 fn:FuncId→Prop
 bad:TypeId
 ty:TypeId→Prop
 g:Nat
 /-- Below it lie the blocks of slices without room that lead nowhere. -/
 m:Nat
def ARel (L:Lim) (β:Bl) (a b:Addr):Prop:=β a.block=some b.block∧a.off=b.off∧a.spot=b.spot∧L.g≤a.block∧L.g≤b.block
def OARel (L:Lim) (β:Bl):Option Addr→Option Addr→Prop
 | some a,some b=>ARel L β a b
 | none,none=>True
 | _,_=>False
def pz (bad : TypeId) (v : Value) : Value := .func (.method "") #[.iface bad v] #[]
def IsPz (bad:TypeId) (x:Value):Prop:=∃ v,x=pz bad v
def OneC (v:Value):Prop:=(∀ cs,v≠.agg cs)∧(∀ cs,v≠.tuple cs)∧∀ b,v≠.bool b
inductive VRel (L:Lim) (β:Bl):Value→Value→Prop
 | poison {v:Value} (h:OneC v):VRel L β (pz L.bad v) v
 | bool (b:Bool):VRel L β (.bool b) (.bool b)
 | int (k:IntKind) (n:Int):VRel L β (.int k n) (.int k n)
 | string (s:ByteArray):VRel L β (.string s) (.string s)
 | pointer {a b:Option Addr} (h:OARel L β a b):VRel L β (.pointer a) (.pointer b)
 | slice {a b:Option Addr} (n c:Nat) (h:OARel L β a b):VRel L β (.slice a n c) (.slice b n c)
 | sliceZ (a:Addr) (h:a.block < L.m):VRel L β (.slice (some a) 0 0) (.slice (some a) 0 0)
 | map:VRel L β (.map none) (.map none)
 | chan {r s:Nat} (h:β r=some s):VRel L β (.chan (some r)) (.chan (some s))
 | chan0:VRel L β (.chan none) (.chan none)
 | func (f:FuncId) {as1 bs cs ds:Array Value} (hf:L.fn f) (h1:as1.size=bs.size) (h2:cs.size=ds.size) (h3:∀ (i:Nat) (v w:Value),as1[i]?=some v→bs[i]?=some w→VRel L β v w)
  (h4:∀ (i:Nat) (v w:Value),cs[i]?=some v→ds[i]?=some w→VRel L β v w):VRel L β (.func (.func f) as1 cs) (.func (.func f) bs ds)
 | nilFunc:VRel L β .nilFunc .nilFunc
 | iface (t:TypeId) {v w:Value} (ht:L.ty t) (h:VRel L β v w):VRel L β (.iface t v) (.iface t w)
 | nilIface:VRel L β .nilIface .nilIface
 | agg {as1 bs:Array Value} (h1:as1.size=bs.size) (h:∀ (i:Nat) (v w:Value),as1[i]?=some v→bs[i]?=some w→VRel L β v w):VRel L β (.agg as1) (.agg bs)
 | tuple {as1 bs:Array Value} (h1:as1.size=bs.size) (h:∀ (i:Nat) (v w:Value),as1[i]?=some v→bs[i]?=some w→VRel L β v w):VRel L β (.tuple as1) (.tuple bs)
variable {L:Lim} {β γ:Bl}
theorem OARel.mono (hl:Bl.Le β γ) {a b:Option Addr} (h:OARel L β a b):OARel L γ a b:=by
 cases a<;>cases b<;>first | exact h | exact ⟨hl _ _ h.1,h.2⟩
theorem VRel.mono (hl:Bl.Le β γ) {v w:Value} (h:VRel L β v w):VRel L γ v w:=by
 induction h with
 | poison h=>exact .poison h
 | bool b=>exact .bool b
 | int k n=>exact .int k n
 | string s=>exact .string s
 | pointer h=>exact .pointer (h.mono hl)
 | slice n c h=>exact .slice n c (h.mono hl)
 | sliceZ a h=>exact .sliceZ a h
 | map=>exact .map
 | chan h=>exact .chan (hl _ _ h)
 | chan0=>exact .chan0
 | func f hf h1 h2 _ _ i3 i4=>exact .func f hf h1 h2 i3 i4
 | nilFunc=>exact .nilFunc
 | iface t ht _ ih=>exact .iface t ht ih
 | nilIface=>exact .nilIface
 | agg h1 _ ih=>exact .agg h1 ih
 | tuple h1 _ ih=>exact .tuple h1 ih
def VsRel (L:Lim) (β:Bl) (as1 bs:Array Value):Prop:=as1.size=bs.size∧∀ (i:Nat) (v w:Value),as1[i]?=some v→bs[i]?=some w→VRel L β v w
theorem VsRel.mono (hl:Bl.Le β γ) {as1 bs:Array Value} (h:VsRel L β as1 bs):VsRel L γ as1 bs:=⟨h.1,fun i v w h1 h2=>(h.2 i v w h1 h2).mono hl⟩
theorem VsRel.nil:VsRel L β #[] #[]:=⟨rfl,fun i v w h=>by simp at h⟩
theorem VsRel.get {as1 bs:Array Value} (h:VsRel L β as1 bs) {i:Nat} {v:Value} (hv:as1[i]?=some v):∃ w,bs[i]?=some w∧VRel L β v w:=by
 have hi:i < bs.size:=by rw [← h.1];exact (Array.getElem?_eq_some_iff.1 hv).1
 exact ⟨bs[i],Array.getElem?_eq_getElem hi,h.2 i v _ hv (Array.getElem?_eq_getElem hi)⟩
theorem VsRel.none {as1 bs:Array Value} (h:VsRel L β as1 bs) {i:Nat} (hv:as1[i]?=none):bs[i]?=none:=by
 rw [Array.getElem?_eq_none_iff] at hv ⊢;rw [← h.1];exact hv
theorem VsRel.push {as1 bs:Array Value} {v w:Value} (h:VsRel L β as1 bs) (hv:VRel L β v w):VsRel L β (as1.push v) (bs.push w):=by
 refine ⟨by simp [h.1],fun i x y hx hy=>?_⟩;rw [Array.getElem?_push] at hx hy;rw [← h.1] at hy;split at hx
 .rename_i e;rw [if_pos e] at hy;cases hx;cases hy;exact hv
 .rename_i e;rw [if_neg e] at hy;exact h.2 i x y hx hy
theorem VsRel.append {as1 bs cs ds:Array Value} (h:VsRel L β as1 bs) (k:VsRel L β cs ds):VsRel L β (as1++cs) (bs++ds):=by
 refine ⟨by simp [h.1,k.1],fun i x y hx hy=>?_⟩;rw [Array.getElem?_append] at hx hy;rw [← h.1] at hy;split at hx
 .rename_i e;rw [if_pos e] at hy;exact h.2 i x y hx hy
 .rename_i e;rw [if_neg e] at hy;exact k.2 _ x y hx hy
theorem VsRel.one {v w:Value} (h:VRel L β v w):VsRel L β #[v] #[w]:=VsRel.nil.push h
theorem VsRel.set {as1 bs:Array Value} {v w:Value} (h:VsRel L β as1 bs) (k:Nat) (hv:VRel L β v w):VsRel L β (as1.setIfInBounds k v) (bs.setIfInBounds k w):=by
 refine ⟨by simp [h.1],fun i x y hx hy=>?_⟩;rw [Array.getElem?_setIfInBounds] at hx hy;rw [← h.1] at hy;split at hx
 .rename_i e
  rw [if_pos e] at hy;split at hx
  .rename_i e2;rw [if_pos e2] at hy;cases hx;cases hy;exact hv
  .cases hx
 .rename_i e;rw [if_neg e] at hy;exact h.2 i x y hx hy
theorem OneC.cells {v:Value} (h:OneC v):v.cells=#[v]:=by
 cases v with
 | agg cs=>exact absurd rfl (h.1 cs)
 | _=>rfl
theorem VsRel.cells {v w:Value} (h:VRel L β v w):VsRel L β v.cells w.cells:=by
 cases h with
 | agg h1 h=>exact ⟨h1,h⟩
 | poison h=>rw [h.cells];exact VsRel.one (.poison h)
 | sliceZ a h=>exact VsRel.one (.sliceZ a h)
 | _=>exact VsRel.one (by constructor<;>assumption)
end Go.Proofs.YtiblbnkpjmmjaaaGreat
namespace Go.Proofs.YtiblbnkpjmmjaaaGreat
open Go.Conc
inductive ORel (L:Lim) (β:Bl):Obj→Obj→Prop
 | cells {c d:Array Value} (T:TypeId) (f:Nat×Nat) (h:VsRel L β c d):ORel L β (.cells c T f) (.cells d T f)
 | number {a b:Addr} (l:Bool) (h:ARel L β a b):ORel L β (.number a l) (.number b l)
theorem ORel.mono {L:Lim} {β γ:Bl} (hl:Bl.Le β γ) {o p:Obj} (h:ORel L β o p):ORel L γ o p:=by
 cases h with
 | cells T f h=>exact .cells T f (h.mono hl)
 | number l h=>exact .number l ⟨hl _ _ h.1,h.2⟩
structure WRel (L:Lim) (β:Bl) (v w:World):Prop where
 blk:∀ k x,β k=some x→∃ o p,v.heap[k]?=some o∧w.heap[x]?=some p∧ORel L β o p
 inj:∀ k l x,β k=some x→β l=some x→k=l
 sv:L.g≤v.heap.size
 sw:L.g≤w.heap.size
def Agree (v w:World):Prop:=∀ j q,v.tape (v.drawn+j) q=w.tape (w.drawn+j) q
structure Foot (L:Lim) (β γ:Bl) (v w v' w':World):Prop where
 le:Bl.Le β γ
 rel:WRel L γ v' w'
 ag:Agree v' w'
 tv:v'.tape=v.tape
 tw:w'.tape=w.tape
 os:w'.os=w.os
 out:w'.output=w.output
 gv:v.heap.size≤v'.heap.size
 gw:w.heap.size≤w'.heap.size
 keep:∀ x,x < w.heap.size→(∀ k,β k≠some x)→w'.heap[x]?=w.heap[x]?
 new:∀ k x,γ k=some x→β k=some x∨(w.heap.size≤x∧v.heap.size≤k)
 dr:∃ n,v'.drawn=v.drawn+n∧w'.drawn=w.drawn+n
def AtB (l:Loc) (x:Nat):Prop:=(∃ a,l=.cell a∧a.block=x)∨l=.obj x
def EvOk (β:Bl) (e:Event):Prop:=e.loc=.mark .noRoom∨∃ k x,AtB e.loc x∧β k=some x
theorem EvOk.mono {β γ:Bl} (hl:Bl.Le β γ) {e:Event} (h:EvOk β e):EvOk γ e:=h.imp id fun ⟨k,x,h1,h2⟩=>⟨k,x,h1,hl _ _ h2⟩
section
variable {L:Lim} {β γ δ:Bl} {v w v' w' v'' w'':World}
theorem Foot.refl (h:WRel L β v w) (ha:Agree v w):Foot L β β v w v w:=
 ⟨Bl.Le.refl _,h,ha,rfl,rfl,rfl,rfl,Nat.le_refl _,Nat.le_refl _,fun _ _ _=>rfl,fun _ _ h=>.inl h,0,rfl,rfl⟩
theorem Foot.trans (h:Foot L β γ v w v' w') (k:Foot L γ δ v' w' v'' w''):Foot L β δ v w v'' w'':=by
 refine ⟨h.le.trans k.le,k.rel,k.ag,k.tv.trans h.tv,k.tw.trans h.tw,k.os.trans h.os,k.out.trans h.out,Nat.le_trans h.gv k.gv,Nat.le_trans h.gw k.gw,fun x hx hn=>?_,fun a x e=>?_,?_⟩
 .refine (k.keep x (Nat.lt_of_lt_of_le hx h.gw) fun a e=>?_).trans (h.keep x hx hn);rcases h.new a x e with e1 | ⟨e1,e2⟩
  .exact hn a e1
  .omega
 .rcases k.new a x e with e1 | ⟨e1,e2⟩
  .exact h.new a x e1
  .exact .inr ⟨Nat.le_trans h.gw e1,Nat.le_trans h.gv e2⟩
 .obtain ⟨n,h1,h2⟩:=h.dr;obtain ⟨m,k1,k2⟩:=k.dr;exact ⟨n+m,by omega,by omega⟩
end
def qh:Halt→Bool
 | .stuck _=>true
 | .panic _=>true
 | .unsupported (.initOrder _)=>false
 | .unsupported _=>true
 | _=>false
inductive SRel (P:Program) (L:Lim) {α:Type} (R:Bl→α→α→Prop):Bl→Sem α→Sem α→Prop
 | pure {β:Bl} {a b:α} (h:R β a b):SRel P L R β (.pure a) (.pure b)
 | load {β:Bl} {m:Mode} {a b:Addr} {k l:Value→Sem α} (h:ARel L β a b) (hk:∀ γ,Bl.Le β γ→∀ x y,VRel L γ x y→SRel P L R γ (k x) (l y)):SRel P L R β (.load m a k) (.load m b l)
 | store {β:Bl} {m:Mode} {a b:Addr} {x y:Value} {k l:Sem α} (h:ARel L β a b) (hv:VRel L β x y) (hk:∀ γ,Bl.Le β γ→SRel P L R γ k l):SRel P L R β (.store m a x k) (.store m b y l)
 | new {β:Bl} {o p:Obj} {k l:Nat→Sem α} (h:ORel L β o p) (hk:∀ γ,Bl.Le β γ→∀ r s,γ r=some s→L.g≤r∧L.g≤s→SRel P L R γ (k r) (l s)):SRel P L R β (.new o k) (.new p l)
 | getObj {β:Bl} {r s:Nat} {k l:Obj→Sem α} (h:β r=some s) (hk:∀ a b n,ARel L β a b→SRel P L R β (k (.number a n)) (l (.number b n))):SRel P L R β (.getObj r k) (.getObj s l)
 | choose {β:Bl} {q:Question} {k l:Nat→Sem α} (hk:∀ n,SRel P L R β (k n) (l n)):SRel P L R β (.choose q k) (.choose q l)
 | program {β:Bl} {k l:Program→Sem α} (hk:SRel P L R β (k P) (l P)):SRel P L R β (.program k) (.program l)
 | shape {β:Bl} {r s:Nat} {k l:Option (TypeId×Nat)→Sem α} (h:β r=some s) (hk:∀ o,SRel P L R β (k o) (l o)):SRel P L R β (.shape r k) (.shape s l)
 | frozen {β:Bl} {a b:Addr} {k l:Bool→Sem α} (h:ARel L β a b) (hk:∀ o,SRel P L R β (k o) (l o)):SRel P L R β (.frozen a k) (.frozen b l)
 | room {β:Bl} {k l:Sem α} (hk:SRel P L R β k l):SRel P L R β (.mark .noRoom k) (.mark .noRoom l)
 | panic {β:Bl} {x y:Value}:SRel P L R β (.halt (.panic x)) (.halt (.panic y))
 | dead {β:Bl} {s t:Sem α} (h:∀ w,∃ e w',s.run P w=.halt e w'∧qh e=true):SRel P L R β s t
section
variable {P:Program} {L:Lim} {α α':Type} {R:Bl→α→α→Prop} {R':Bl→α'→α'→Prop} {β γ:Bl}
theorem SRel.stuck {s:String} {u:Sem α}:SRel P L R β (Go.stuck s) u:=.dead fun w=>⟨_,_,rfl,rfl⟩
theorem SRel.unsup {s:Unsupported} {u:Sem α} (h:qh (.unsupported s)=true:=by rfl):SRel P L R β (Go.unsupported s) u:=.dead fun w=>⟨_,_,rfl,h⟩
theorem SRel.bind {s t:Sem α} {f g:α→Sem α'} (h:SRel P L R β s t) (hf:∀ γ,Bl.Le β γ→∀ a b,R γ a b→SRel P L R' γ (f a) (g b)):SRel P L R' β (s.bind f) (t.bind g):=by
 induction h with
 | pure h=>exact hf _ (Bl.Le.refl _) _ _ h
 | load h _ ih=>exact .load h fun γ hl x y hv=>ih γ hl x y hv fun δ hl2=>hf δ (hl.trans hl2)
 | store h hv _ ih=>exact .store h hv fun γ hl=>ih γ hl fun δ hl2=>hf δ (hl.trans hl2)
 | new h _ ih=>exact .new h fun γ hl r s e eg=>ih γ hl r s e eg fun δ hl2=>hf δ (hl.trans hl2)
 | getObj h _ ih=>exact .getObj h fun a b n hab=>ih a b n hab hf
 | choose _ ih=>exact .choose fun n=>ih n hf
 | program _ ih=>exact .program (ih hf)
 | shape h _ ih=>exact .shape h fun n=>ih n hf
 | frozen h _ ih=>exact .frozen h fun n=>ih n hf
 | room _ ih=>exact .room (ih hf)
 | panic=>exact .panic
 | dead h=>
  refine .dead fun w=>?_;obtain ⟨e,w',h1,h2⟩:=h w;refine ⟨e,w',?_,h2⟩;rw [Sem.run_bind',h1];rfl
end
theorem lt_of_heap {w:World} {k:Nat} {o:Obj} (h:w.heap[k]?=some o):k < w.heap.size:=(Array.getElem?_eq_some_iff.1 h).1
theorem cell_isC {w:World} {a:Addr} {v:Value} (h:w.cell? a=some v):∃ c T f,w.heap[a.block]?=some (.cells c T f)∧a.spot=none∧c[a.off]?=some v:=by
 unfold World.cell? at h;split at h
 .rename_i c T f e
  split at h
  .cases h
  .rename_i hs
   exact ⟨c,T,f,e,by simpa using hs,h⟩
 .cases h
section
variable {P:Program} {L:Lim} {β γ:Bl} {v w:World}
theorem WRel.shape (h:WRel L β v w) {r s:Nat} (e:β r=some s):w.shape? s=v.shape? r:=by
 obtain ⟨o,p,h1,h2,h3⟩:=h.blk _ _ e;unfold World.shape?;rw [h1,h2];cases h3 with
 | cells T f h=>simp only [h.1]
 | number l h=>rfl
theorem WRel.frozen (h:WRel L β v w) {a b:Addr} (ha:ARel L β a b):w.frozen? b=v.frozen? a:=by
 obtain ⟨o,p,h1,h2,h3⟩:=h.blk _ _ ha.1;unfold World.frozen?;rw [h1,h2];cases h3 with
 | cells T f h=>simp only [ha.2.1]
 | number l h=>rfl
theorem WRel.row (h:WRel L β v w) {k x:Nat} (e:β k=some x) {c:Array Value} {T:TypeId} {f:Nat×Nat} (hc:v.heap[k]?=some (.cells c T f)):∃ d,w.heap[x]?=some (.cells d T f)∧VsRel L β c d:=by
 obtain ⟨o,p,h1,h2,h3⟩:=h.blk _ _ e;rw [hc] at h1;cases h1;cases h3 with
 | cells T f h=>exact ⟨_,h2,h⟩
theorem WRel.cell (h:WRel L β v w) {a b:Addr} {x:Value} (ha:ARel L β a b) (hx:v.cell? a=some x):∃ y,w.cell? b=some y∧VRel L β x y:=by
 obtain ⟨c,T,f,e,hs,hc⟩:=cell_isC hx;obtain ⟨d,e2,hd⟩:=h.row ha.1 e;obtain ⟨y,hy,hv⟩:=hd.get hc;refine ⟨y,?_,hv⟩;unfold World.cell?;rw [e2];simp only [← ha.2.2.1,hs,Option.isSome_none,Bool.false_eq_true,if_false,← ha.2.1];exact hy
theorem WRel.noCell (h:WRel L β v w) {a b:Addr} (ha:ARel L β a b) (s:String):∃ e,v.noCell a s=e∧qh e=true∧∀ (y:Addr) (t:TypeId),v.heap[a.block]?≠some (Obj.view y t):=by
 obtain ⟨o,p,h1,h2,h3⟩:=h.blk _ _ ha.1;refine ⟨_,rfl,?_,fun y t e=>by rw [h1] at e;cases e;cases h3⟩;unfold World.noCell;rw [h1];cases h3<;>rfl
theorem WRel.set (h:WRel L β v w) (hg:Agree v w) {a b:Addr} {x y z:Value} (ha:ARel L β a b) (hx:v.cell? a=some z) (hv:VRel L β x y):Foot L β β v w (v.setCell a x) (w.setCell b y):=by
 obtain ⟨c,T,f,e,hs,hc⟩:=cell_isC hx;obtain ⟨d,e2,hd⟩:=h.row ha.1 e;have hsv:(v.setCell a x).heap[a.block]?=some (.cells (c.setIfInBounds a.off x) T f):=by
  unfold World.setCell;simp [Array.getElem?_modify,e,hs]
 have hsw:(w.setCell b y).heap[b.block]?=some (.cells (d.setIfInBounds a.off y) T f):=by
  unfold World.setCell;simp [Array.getElem?_modify,e2,← ha.2.2.1,hs,ha.2.1]
 have hov:∀ k,k≠a.block→(v.setCell a x).heap[k]?=v.heap[k]?:=fun k hk=>by
  unfold World.setCell;simp only [Array.getElem?_modify];rw [if_neg (fun e=>hk e.symm)]
 have how:∀ k,k≠b.block→(w.setCell b y).heap[k]?=w.heap[k]?:=fun k hk=>by
  unfold World.setCell;simp only [Array.getElem?_modify];rw [if_neg (fun e=>hk e.symm)]
 refine ⟨Bl.Le.refl _,⟨fun k x' e3=>?_,h.inj,?_,?_⟩,hg,rfl,rfl,rfl,rfl,?_,?_,fun x' hx' hn=>how x' fun e5=>hn a.block (e5 ▸ ha.1),fun _ _ e3=>.inl e3,0,rfl,rfl⟩
 .by_cases hk:k=a.block
  .subst hk;rw [ha.1] at e3;cases e3;exact ⟨_,_,hsv,hsw,.cells _ _ (hd.set _ hv)⟩
  .have hxb:x'≠b.block:=fun e5=>hk (h.inj k a.block x' e3 (e5 ▸ ha.1));rw [how x' hxb,hov k hk];exact h.blk _ _ e3
 .have:=h.sv;simpa [World.setCell] using this
 .have:=h.sw;simpa [World.setCell] using this
 .simp [World.setCell]
 .simp [World.setCell]
def Bl.put (β:Bl) (k x:Nat):Bl:=fun i=>if i=k then some x else β i
theorem WRel.new (h:WRel L β v w) (hg:Agree v w) {o p:Obj} (hd:ORel L β o p) :
 Foot L β (β.put v.heap.size w.heap.size) v w { v with heap:=v.heap.push o } { w with heap:=w.heap.push p }:=by
 have top:∀ k x,β k=some x→k < v.heap.size∧x < w.heap.size:=fun k x e=>by
  obtain ⟨_,_,h1,h2,_⟩:=h.blk _ _ e;exact ⟨lt_of_heap h1,lt_of_heap h2⟩
 have hle:Bl.Le β (β.put v.heap.size w.heap.size):=fun k x e=>by
  have:=(top k x e).1;unfold Bl.put;rw [if_neg (by omega)];exact e
 have hput:∀ k x,β.put v.heap.size w.heap.size k=some x→(k=v.heap.size∧x=w.heap.size)∨(k≠v.heap.size∧β k=some x):=fun k x e=>by
  unfold Bl.put at e;split at e
  .cases e;exact .inl ⟨by assumption,rfl⟩
  .exact .inr ⟨by assumption,e⟩
 refine ⟨hle,⟨fun k x e=>?_,fun k l x e1 e2=>?_,?_,?_⟩,hg,rfl,rfl,rfl,rfl,by simp,by simp,fun x hx hn=>?_,fun k x e=>?_,0,rfl,rfl⟩
 .rcases hput k x e with ⟨rfl,rfl⟩ | ⟨_,e⟩
  .exact ⟨o,p,by simp,by simp,hd.mono hle⟩
  .obtain ⟨o',p',h1,h2,h3⟩:=h.blk _ _ e;refine ⟨o',p',?_,?_,h3.mono hle⟩
   .show (v.heap.push _)[k]?=_;rw [Array.getElem?_push,if_neg (by have:=(top k x e).1;omega)];exact h1
   .show (w.heap.push _)[x]?=_;rw [Array.getElem?_push,if_neg (by have:=(top k x e).2;omega)];exact h2
 .rcases hput k x e1 with ⟨rfl,rfl⟩ | ⟨_,e1⟩<;>rcases hput l _ e2 with ⟨rfl,e4⟩ | ⟨_,e2⟩
  .rfl
  .exact absurd (top _ _ e2).2 (Nat.lt_irrefl _)
  .subst e4;exact absurd (top _ _ e1).2 (Nat.lt_irrefl _)
  .exact h.inj _ _ _ e1 e2
 .have:=h.sv;simp;omega
 .have:=h.sw;simp;omega
 .show (w.heap.push _)[x]?=_;rw [Array.getElem?_push,if_neg (by omega)]
 .rcases hput k x e with ⟨rfl,rfl⟩ | ⟨_,e⟩
  .exact .inr ⟨Nat.le_refl _,Nat.le_refl _⟩
  .exact .inl e
end
section
variable {P:Program} {L:Lim} {α:Type} {R:Bl→α→α→Prop} {β γ:Bl} {v w v' w':World}
def EvsOk (P:Program) {α:Type} (γ:Bl) (w:World) (t:Sem α):Prop:=∀ es,∀ e∈t.events P w es,e∈es∨EvOk γ e
def RRel (P:Program) (L:Lim) {α:Type} (R:Bl→α→α→Prop) (β:Bl) (v w:World) (t:Sem α):Result α→Prop
 | .ok a v'=>∃ γ b w',t.run P w=.ok b w'∧Foot L β γ v w v' w'∧R γ a b∧EvsOk P γ w t
 | .halt e _=>qh e=true
theorem RRel.next {t u:Sem α} {r:Result α} (f:Foot L β γ v w v' w') (h:RRel P L R γ v' w' u r) (h1:t.run P w=u.run P w')
 (h2:∀ es,∃ fs,t.events P w es=u.events P w' fs∧∀ e∈fs,e∈es∨EvOk β e):RRel P L R β v w t r:=by
 have hev:∀ δ,Bl.Le γ δ→EvsOk P δ w' u→EvsOk P δ w t:=fun δ hd h3 es e he=>by
  obtain ⟨fs,h4,h5⟩:=h2 es;rw [h4] at he;rcases h3 fs e he with h6 | h6
  .exact (h5 e h6).imp id (EvOk.mono (f.le.trans hd))
  .exact .inr h6
 cases r with
 | ok a z=>obtain ⟨δ,b,w2,k1,k2,k3,k4⟩:=h;exact ⟨δ,b,w2,h1.trans k1,f.trans k2,k3,hev δ k2.le k4⟩
 | halt x z=>exact h
theorem Foot.draw (h:WRel L β v w) (hg:Agree v w):Foot L β β v w { v with drawn:=v.drawn+1 } { w with drawn:=w.drawn+1 }:=
 ⟨Bl.Le.refl _,⟨h.blk,h.inj,h.sv,h.sw⟩,fun j q=>by have:=hg (1+j) q;simp only [← Nat.add_assoc] at this;exact this,rfl,rfl,rfl,rfl,Nat.le_refl _,Nat.le_refl _,fun _ _ _=>rfl,fun _ _ e=>.inl e,1,rfl,rfl⟩
theorem SRel.run {s t:Sem α} (h:SRel P L R β s t):∀ {v w:World},WRel L β v w→Agree v w→RRel P L R β v w t (s.run P v):=by
 induction h with
 | pure h=>exact fun hw ha=>⟨_,_,_,rfl,Foot.refl hw ha,h,fun es e he=>.inl he⟩
 | @load β m a b k l h hk ih=>
  intro v w hw ha;unfold Sem.run;cases hc:v.cell? a with
  | none=>
   dsimp only;have hf:∃ e,v.farLoad P a (m == .atomic)=.error e∧qh e=true:=by
    obtain ⟨e, he, hx, hn⟩ := hw.noCell h "load: no such cell";unfold World.farLoad;split
    .rename_i h1;exact absurd h1 (hn _ _)
    .rw [he];exact ⟨_,rfl,hx⟩
   obtain ⟨e,he,hx⟩:=hf;rw [he];exact hx
  | some x=>
   obtain ⟨y,hy,hv⟩:=hw.cell h hc;refine RRel.next (Foot.refl hw ha) (ih β (Bl.Le.refl _) x y hv hw ha) (by conv=>lhs;unfold Sem.run;simp only [hy]) fun es=>?_;refine ⟨es.push ⟨.cell b,false,m == .atomic⟩,?_,fun e he=>?_⟩
   .unfold Sem.events
    conv=>lhs;unfold Sem.runT;simp only [hy]
   .rcases Array.mem_push.1 he with he | rfl
    .exact .inl he
    .exact .inr (.inr ⟨_,_,.inl ⟨b,rfl,rfl⟩,h.1⟩)
 | @store β m a b x y k l h hv hk ih=>
  intro v w hw ha;have plain:(∀ cs,x≠.agg cs)→(∀ cs,x≠.tuple cs)→RRel P L R β v w (.store m b y l) ((Sem.store m a x k).run P v):=fun n1 n2=>by
   have m1:∀ cs,y≠.agg cs:=fun cs e=>by
    subst e;cases hv with
    | poison h=>exact h.1 _ rfl
    | agg=>exact n1 _ rfl
   have m2:∀ cs,y≠.tuple cs:=fun cs e=>by
    subst e;cases hv with
    | poison h=>exact h.2.1 _ rfl
    | tuple=>exact n2 _ rfl
   have hrun:∀ (u:World) (a:Addr) (x:Value) (k:Sem α),(∀ cs,x≠.agg cs)→(∀ cs,x≠.tuple cs)→(Sem.store m a x k).run P u=match u.cell? a with
    | some _ => if u.frozen? a then .halt (.unsupported (.unsafePointer "a write to bytes that a string shares")) u else k.run P (u.setCell a x)
    | none=>match u.farStore P a x (m == .atomic) with
     | .ok (w,_)=>k.run P w
     | .error h=>.halt h u:=fun u a x k n1 n2=>by
    cases x<;>first | exact absurd rfl (n1 _) | exact absurd rfl (n2 _) | rfl
   rw [hrun v a x k n1 n2];cases hc:v.cell? a with
   | none=>
    dsimp only;have hf:∃ e,v.farStore P a x (m == .atomic)=.error e∧qh e=true:=by
     obtain ⟨e, he, hx, hn⟩ := hw.noCell h "store: no such cell";unfold World.farStore;split
     .rename_i h1;exact absurd h1 (hn _ _)
     .rw [he];exact ⟨_,rfl,hx⟩
    obtain ⟨e,he,hx⟩:=hf;rw [he];exact hx
   | some z=>
    dsimp only;obtain ⟨z',hz,_⟩:=hw.cell h hc;have hfr:=hw.frozen h;by_cases hf:v.frozen? a=true
    .rw [if_pos hf];exact (show qh (.unsupported _)=true from rfl)
    .rw [if_neg hf];have F:=hw.set ha h hc hv;refine RRel.next F (ih β (Bl.Le.refl _) F.rel F.ag) (by rw [hrun w b y l m1 m2,hz];dsimp only;rw [hfr,if_neg hf]) fun es=>?_;refine ⟨es.push ⟨.cell b,true,m == .atomic⟩,?_,fun e he=>?_⟩
     .unfold Sem.events;have hT:(Sem.store m b y l).runT P w es=l.runT P (w.setCell b y) (es.push ⟨.cell b,true,m == .atomic⟩):=by
       cases y<;>first | exact absurd rfl (m1 _) | exact absurd rfl (m2 _) | (conv=>lhs;unfold Sem.runT;simp only [hz];rw [hfr,if_neg hf])
      rw [hT]
     .rcases Array.mem_push.1 he with he | rfl
      .exact .inl he
      .exact .inr (.inr ⟨_,_,.inl ⟨b,rfl,rfl⟩,h.1⟩)
  cases x with
  | agg cs=>exact (show qh (.stuck _)=true from rfl)
  | tuple cs=>exact (show qh (.stuck _)=true from rfl)
  | _=>exact plain (fun cs h=>by cases h) (fun cs h=>by cases h)
 | @getObj β r s k l h hk ih=>
  intro v w hw ha;obtain ⟨o,p,h1,h2,h3⟩:=hw.blk _ _ h;unfold Sem.run;rw [h1];cases h3 with
  | cells T f h4=>exact (show qh (.stuck _)=true from rfl)
  | @number a b n h4=>
   refine RRel.next (Foot.refl hw ha) (ih a b n h4 hw ha) (by conv=>lhs;unfold Sem.run;rw [h2]) fun es=>⟨es.push ⟨.obj s,false,(Obj.number b n).isChan⟩,?_,fun e he=>?_⟩
   .unfold Sem.events
    conv=>lhs;unfold Sem.runT;rw [h2]
   .rcases Array.mem_push.1 he with he | rfl
    .exact .inl he
    .exact .inr (.inr ⟨_,_,.inr rfl,h⟩)
 | @new β o p k l h hk ih=>
  intro v w hw ha;have F:=hw.new ha h;refine RRel.next F (ih _ F.le v.heap.size w.heap.size (by unfold Bl.put;rw [if_pos rfl]) ⟨hw.sv,hw.sw⟩ F.rel F.ag) rfl fun es=>⟨es,rfl,fun e he=>.inl he⟩
 | @choose β q k l hk ih=>
  intro v w hw ha;unfold Sem.run;by_cases hf:q.forced=true
  .rw [if_pos hf];refine RRel.next (Foot.refl hw ha) (ih 0 hw ha) (by conv=>lhs;unfold Sem.run;rw [if_pos hf]) fun es=>⟨es,?_,fun e he=>.inl he⟩;unfold Sem.events
   conv=>lhs;unfold Sem.runT;rw [if_pos hf]
  .rw [if_neg hf];have F:=Foot.draw hw ha;have ht:w.tape w.drawn q=v.tape v.drawn q:=(ha 0 q).symm;refine RRel.next F (ih _ F.rel F.ag) (by conv=>lhs;unfold Sem.run;rw [if_neg hf,ht]) fun es=>⟨es,?_,fun e he=>.inl he⟩;unfold Sem.events
   conv=>lhs;unfold Sem.runT;rw [if_neg hf,ht]
 | program hk ih=>exact fun hw ha=>RRel.next (Foot.refl hw ha) (ih hw ha) rfl fun es=>⟨es,rfl,fun e he=>.inl he⟩
 | @shape β r s k l h hk ih=>
  intro v w hw ha;refine RRel.next (Foot.refl hw ha) (ih (v.shape? r) hw ha) (by conv=>lhs;unfold Sem.run;rw [hw.shape h]) fun es=>⟨es,?_,fun e he=>.inl he⟩;unfold Sem.events
  conv=>lhs;unfold Sem.runT;rw [hw.shape h]
 | @frozen β a b k l h hk ih=>
  intro v w hw ha;refine RRel.next (Foot.refl hw ha) (ih (v.frozen? a) hw ha) (by conv=>lhs;unfold Sem.run;rw [hw.frozen h]) fun es=>⟨es,?_,fun e he=>.inl he⟩;unfold Sem.events
  conv=>lhs;unfold Sem.runT;rw [hw.frozen h]
 | room hk ih=>
  intro v w hw ha;refine RRel.next (Foot.refl hw ha) (ih hw ha) rfl fun es=>⟨es.push ⟨.mark .noRoom,false,true⟩,rfl,fun e he=>?_⟩;rcases Array.mem_push.1 he with he | rfl
  .exact .inl he
  .exact .inr (.inl rfl)
 | panic=>exact fun hw ha=>(show qh (.panic _)=true from rfl)
 | dead h=>
  intro v w hw ha;obtain ⟨e,w',h1,h2⟩:=h v;rw [h1];exact h2
end
structure PL (P:Program) (L:Lim):Prop where
 zero:∀ t i z,t < P.types.size→P.info? t=some i→i.zero=some z→∀ β,VRel L β z z
 fn : ∀ f, L.fn f → ∃ fn, P.funcs[f]? = some fn ∧ (fn.name == "runtime.NumGoroutine") = false ∧ fn.body.isSome = true
 bad:P.info? L.bad=none
 ty:∀ t,L.ty t→∀ i,P.info? t=some i→∀ n m,i.methods.find? (·.name == n)=some m→m.path.toList=[]∧∃ f,m.func=some (f,false)∧L.fn f
 np:∀ t,L.ty t→∀ e,P.underlying t≠some (.pointer e)
def ZE (P:Program) (t:TypeId):Prop:=∀ e,P.underlying t=some (.slice e)→e < P.types.size
section
variable {P:Program} {L:Lim} {α α':Type} {R:Bl→α→α→Prop} {R':Bl→α'→α'→Prop} {β γ:Bl}
theorem SRel.imp {s t:Sem α} {Q:Bl→α→α→Prop} (h:SRel P L R β s t) (hq:∀ γ a b,R γ a b→Q γ a b):SRel P L Q β s t:=by
 induction h with
 | pure h=>exact .pure (hq _ _ _ h)
 | load h _ ih=>exact .load h ih
 | store h hv _ ih=>exact .store h hv ih
 | new h _ ih=>exact .new h ih
 | getObj h _ ih=>exact .getObj h ih
 | choose _ ih=>exact .choose ih
 | program _ ih=>exact .program ih
 | shape h _ ih=>exact .shape h ih
 | frozen h _ ih=>exact .frozen h ih
 | room _ ih=>exact .room ih
 | panic=>exact .panic
 | dead h=>exact .dead h
theorem SRel.bnd {x y:Sem α} {f g:α→Sem α'} (h:SRel P L R β x y) (hf:∀ γ,Bl.Le β γ→∀ a b,R γ a b→SRel P L R' γ (f a) (g b)):SRel P L R' β (x >>= f) (y >>= g):=SRel.bind h hf
def SameC (P:Program) (L:Lim) {α:Type} (x:Sem α):Prop:=∀ β,SRel P L (fun _ a b=>a=b) β x x
theorem SameC.b {x:Sem α} (h:SameC P L x) {f g:α→Sem α'} (hm:∀ γ,Bl.Le β γ→∀ a,SRel P L R' γ (f a) (g a)):SRel P L R' β (x >>= f) (x >>= g):=
 SRel.bnd (h β) fun γ hl a b e=>by subst e;exact hm γ hl a
theorem same_program:SameC P L program:=fun β=>.program (.pure rfl)
theorem same_info (t:TypeId):SameC P L (typeInfo t):=fun β=>by
 unfold typeInfo;refine SameC.b same_program fun γ hl p=>?_;cases p.info? t with
 | none=>exact .stuck
 | some i=>exact .pure rfl
theorem same_underlying (t:TypeId):SameC P L (underlying t):=fun β=>by
 unfold underlying;refine SameC.b same_program fun γ hl p=>?_;cases p.underlying t with
 | none=>exact .stuck
 | some i=>exact .pure rfl
theorem same_size (t:TypeId):SameC P L (sizeOf t):=fun β=>by
 unfold sizeOf;exact SameC.b (same_info t) fun γ hl p=>.pure rfl
theorem same_agg (t:TypeId):SameC P L (isAgg t):=fun β=>by
 unfold isAgg;refine SameC.b (same_underlying t) fun γ hl p=>?_;split<;>exact .pure rfl
theorem same_programP:SRel P L (fun _ a b=>a=P∧b=P) β program program:=.program (.pure ⟨rfl,rfl⟩)
theorem same_underP (t:TypeId):SRel P L (fun _ a b=>a=b∧P.underlying t=some a) β (underlying t) (underlying t):=by
 unfold underlying;refine SRel.bnd same_programP fun γ hl a b e=>?_;obtain ⟨e1,e2⟩:=e;rw [e1,e2];cases h:P.underlying t with
 | none=>exact .stuck
 | some d=>exact .pure ⟨rfl,rfl⟩
abbrev RV (L:Lim):Bl→Value→Value→Prop:=fun γ a b=>VRel L γ a b
abbrev RU:Bl→Unit→Unit→Prop:=fun _ _ _=>True
theorem rel_zero (hP:PL P L) (t:TypeId) (ht:t < P.types.size):SRel P L (RV L) β (zeroValue t) (zeroValue t):=by
 unfold zeroValue typeInfo;show SRel P L _ β ((program >>= _) >>= _) _;refine SRel.bnd (R:=fun γ i j=>i=j∧∀ z,i.zero=some z→∀ β,VRel L β z z) ?_ fun γ hl i j e=>?_
 .refine .program ?_;show SRel P L _ β (match P.info? t with | some i=>Pure.pure i | none=>Go.stuck _) (match P.info? t with | some i=>Pure.pure i | none=>Go.stuck _);cases h:P.info? t with
  | none=>exact .stuck
  | some i=>exact .pure ⟨rfl,fun z hz=>hP.zero t i z ht h hz⟩
 .obtain ⟨rfl,hz⟩:=e;cases h:i.zero with
  | none=>simp only;exact .unsup
  | some z=>exact .pure (hz z h γ)
theorem ARel.mono (hl:Bl.Le β γ) {a b:Addr} (h:ARel L β a b):ARel L γ a b:=⟨hl _ _ h.1,h.2⟩
theorem ARel.add {a b:Addr} (h:ARel L β a b) (n:Nat):ARel L β (a.add n) (b.add n):=by
 unfold Addr.add;split
 .exact h
 .exact ⟨h.1,by simp only;rw [h.2.1],rfl,h.2.2.2⟩
theorem rel_load {a b:Addr} (h:ARel L β a b):SRel P L (RV L) β (load a) (load b):=.load h fun γ hl x y hv=>.pure hv
theorem rel_store {a b:Addr} {x y:Value} (h:ARel L β a b) (hv:VRel L β x y):SRel P L RU β (store a x) (store b y):=.store h hv fun γ hl=>.pure trivial
theorem rel_cellsFrom {a b:Addr}:∀ (n i:Nat) {β:Bl} {as1 bs:Array Value},ARel L β a b→VsRel L β as1 bs→SRel P L (fun γ x y=>VsRel L γ x y) β (loadCellsFrom a i n as1) (loadCellsFrom b i n bs)
 | 0,i,β,as1,bs,h,hv=>.pure hv
 | n+1,i,β,as1,bs,h,hv=>SRel.bnd (rel_load (h.add i)) fun γ hl x y hxy=>rel_cellsFrom n (i+1) (h.mono hl) ((hv.mono hl).push hxy)
theorem rel_cells {a b:Addr} (n:Nat) (h:ARel L β a b):SRel P L (fun γ x y=>VsRel L γ x y) β (loadCells a n) (loadCells b n):=rel_cellsFrom n 0 h VsRel.nil
theorem rel_loadVar {a b:Addr} (t:TypeId) (h:ARel L β a b):SRel P L (RV L) β (loadVar t a) (loadVar t b):=by
 unfold loadVar;refine SameC.b (same_agg t) fun γ hl g=>?_;cases g with
 | false=>exact rel_load (h.mono hl)
 | true=>exact SameC.b (same_size t) fun δ hl2 n=>SRel.bnd (rel_cells n ((h.mono hl).mono hl2)) fun ε hl3 x y hxy=>.pure (.agg hxy.1 hxy.2)
inductive LRel (L:Lim) (β:Bl):List Value→List Value→Prop
 | nil:LRel L β [] []
 | cons {x y:Value} {xs ys:List Value} (h:VRel L β x y) (hs:LRel L β xs ys):LRel L β (x :: xs) (y :: ys)
theorem LRel.mono (hl:Bl.Le β γ) {xs ys:List Value} (h:LRel L β xs ys):LRel L γ xs ys:=by
 induction h with
 | nil=>exact .nil
 | cons h _ ih=>exact .cons (h.mono hl) ih
theorem LRel.of:∀ {xs ys:List Value},xs.length=ys.length→(∀ (i:Nat) (v w:Value),xs[i]?=some v→ys[i]?=some w→VRel L β v w)→LRel L β xs ys
 | [],[],_,_=>.nil
 | x :: xs,y :: ys,hl,h=>.cons (h 0 x y rfl rfl) (LRel.of (by simpa using hl) fun i v w h1 h2=>h (i+1) v w (by simpa using h1) (by simpa using h2))
 | [],_ :: _,hl,_=>by simp at hl
 | _ :: _,[],hl,_=>by simp at hl
theorem VsRel.toL {as1 bs:Array Value} (h:VsRel L β as1 bs):LRel L β as1.toList bs.toList:=LRel.of (by simpa using h.1) fun i v w h1 h2=>h.2 i v w (by simpa using h1) (by simpa using h2)
theorem LRel.vs {xs ys:List Value} (h:LRel L β xs ys):VsRel L β xs.toArray ys.toArray:=by
 induction h with
 | nil=>exact VsRel.nil
 | cons h _ ih=>
  have:=(VsRel.one h).append ih
  simpa using this
theorem rel_storeCells {a b:Addr}:∀ {xs ys:List Value} (i:Nat) {β:Bl},ARel L β a b→LRel L β xs ys→SRel P L RU β (storeCells a xs i) (storeCells b ys i)
 | _,_,i,β,h,.nil=>.pure trivial
 | _,_,i,β,h,.cons hx hs=>SRel.bnd (rel_store (h.add i) hx) fun γ hl _ _ _=>rel_storeCells (i+1) (h.mono hl) (hs.mono hl)
theorem rel_storeVar {a b:Addr} {x y:Value} (t:TypeId) (h:ARel L β a b) (hv:VRel L β x y):SRel P L RU β (storeVar t a x) (storeVar t b y):=by
 unfold storeVar;refine SameC.b (same_size t) fun γ hl n=>?_;rw [VsRel.cells hv |>.1];split
 .exact SRel.bnd .stuck (R:=RU) fun δ hl2 _ _ _=>rel_storeCells 0 ((h.mono hl).mono hl2) (((VsRel.cells hv).mono (hl.trans hl2)).toL)
 .exact SRel.bnd (R:=RU) (.pure (a:=()) (b:=()) trivial) fun δ hl2 _ _ _=>rel_storeCells 0 ((h.mono hl).mono hl2) (((VsRel.cells hv).mono (hl.trans hl2)).toL)
theorem rel_newRow {as1 bs:Array Value} (t:TypeId) (h:VsRel L β as1 bs):SRel P L (fun γ a b=>ARel L γ a b) β (newRow t as1) (newRow t bs):=
 SRel.bnd (R:=fun γ r s=>γ r=some s∧L.g≤r∧L.g≤s) (.new (.cells t (0,0) h) fun γ hl r s e eg=>.pure ⟨e,eg⟩) fun γ hl r s e=>.pure ⟨e.1,rfl,rfl,e.2⟩
theorem rel_newVar {x y:Value} (t:TypeId) (h:VRel L β x y):SRel P L (fun γ a b=>ARel L γ a b) β (newVar t x) (newVar t y):=rel_newRow t (VsRel.cells h)
theorem rel_room (n:Nat):SRel P L RU β (askRoom n) (askRoom n):=by
 unfold askRoom;split
 .exact .room (.pure trivial)
 .exact .pure trivial
theorem rel_part {as1 bs:Array Value} (t:TypeId) (h:VsRel L β as1 bs) (k:Nat):SRel P L (RV L) β (part t as1 k) (part t bs k):=by
 unfold part;refine SameC.b (same_agg t) fun γ hl g=>?_;cases g with
 | true=>
  refine SameC.b (same_size t) fun δ hl2 n=>.pure (.agg (by simp [h.1]) fun i v w h1 h2=>?_);rw [Array.getElem?_extract] at h1 h2;rw [← h.1] at h2;split at h1
  .rename_i e;rw [if_pos e] at h2;exact ((h.mono hl).mono hl2).2 _ v w h1 h2
  .cases h1
 | false=>
  simp only [Bool.false_eq_true,if_false];cases hv:as1[k]? with
  | none=>exact .stuck
  | some v=>
   obtain ⟨w,hw,hr⟩:=h.get hv;rw [hw];exact .pure (hr.mono hl)
theorem rel_bounds {x y:Int} {s:Bool} {c:BoundsCode} {x' y':Int} {s':Bool} {c':BoundsCode}:SRel P L R β (runtimePanic (.bounds x y s c)) (runtimePanic (.bounds x' y' s' c')):=.program .panic
theorem rel_error {m m':String}:SRel P L R β (runtimePanic (.error m)) (runtimePanic (.error m')):=.program .panic
theorem rel_nil:SRel P L R β (runtimePanic .nilDeref) (runtimePanic .nilDeref):=.program .panic
theorem same_choose (q:Question):SameC P L (choose q):=fun β=>.choose fun n=>.pure rfl
theorem rel_boundsPanic (k:IntKind) (x y:Int) (c:BoundsCode):SRel P L R β (boundsPanic k x y c) (boundsPanic k x y c):=by
 unfold boundsPanic;dsimp only;split
 .exact SRel.bnd (R:=fun _ _ _=>True) (SRel.bnd (same_choose _ _) fun _ _ _ _ _=>.pure trivial) fun _ _ _ _ _=>rel_bounds
 .exact SRel.bnd (R:=fun _ _ _=>True) (.pure (a:=(k != .u64)) (b:=(k != .u64)) trivial) fun _ _ _ _ _=>rel_bounds
theorem rel_asInt {x y:Value} (h:VRel L β x y):SRel P L (fun _ a b=>a=b) β (asIntOf x) (asIntOf y):=by
 cases h with
 | int k n=>exact .pure rfl
 | pointer h=>
  rename_i a b
  cases a<;>cases b<;>first | exact .stuck | exact .unsup | exact absurd h (by simp [OARel])
 | _=>exact .stuck
theorem rel_asInt' {x y:Value} (h:VRel L β x y):SRel P L (fun _ a b=>a=b) β (asInt x) (asInt y):=SRel.bnd (rel_asInt h) fun γ hl a b e=>by subst e;exact .pure rfl
theorem rel_asBool {x y:Value} (h:VRel L β x y):SRel P L (fun _ a b=>a=b) β (asBool x) (asBool y):=by
 cases h with
 | bool b=>exact .pure rfl
 | _=>exact .stuck
theorem rel_sureAddr {x y:Value} (h:VRel L β x y):SRel P L (fun γ a b=>ARel L γ a b) β (Instr.sureAddr x) (Instr.sureAddr y):=by
 cases h with
 | pointer h=>
  rename_i a b
  cases a<;>cases b<;>first | exact .stuck | exact .pure h | exact absurd h (by simp [OARel])
 | _=>exact .stuck
end

