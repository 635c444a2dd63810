/- -/
import Derived.Test.YtiblbnkpjmmjaaaGreatQ01
set_option maxRecDepth 100000
set_option maxHeartbeats 16000000
set_option linter.all false
namespace Go.Proofs.YtiblbnkpjmmjaaaGreat
open Go.Conc
section
variable {P:Program} {L:Lim} {α α':Type} {R:Bl→α→α→Prop} {R':Bl→α'→α'→Prop} {β γ:Bl}
theorem SRel.stuckB {s:String} {f:α→Sem α'} {u:Sem α'}:SRel P L R' β (Go.stuck s >>= f) u:=.dead fun w=>⟨_,_,rfl,rfl⟩
theorem SRel.unsupB {s:Unsupported} {f:α→Sem α'} {u:Sem α'} (h:qh (.unsupported s)=true:=by rfl):SRel P L R' β ((Go.unsupported s:Sem α) >>= f) u:=.dead fun w=>⟨_,_,rfl,h⟩
theorem SRel.pureB {a b:α} {f g:α→Sem α'} (h:SRel P L R' β (f a) (g b)):SRel P L R' β (Pure.pure a >>= f) (Pure.pure b >>= g):=h
abbrev RElt {α:Type}:Bl→α→α→Prop:=fun _ a b=>a=b
theorem rel_shape {r s:Nat} (h:β r=some s):SRel P L RElt β (shape r) (shape s):=.shape h fun o=>.pure rfl
theorem rel_viewAt {r s:Nat} (h:β r=some s):SRel P L (fun _ a b=>a=none∧b=none) β (viewAt r) (viewAt s):=by
 unfold viewAt;refine SRel.bnd (rel_shape h) fun γ hl a b e=>?_;subst e;cases a with
 | some x=>exact .pure ⟨rfl,rfl⟩
 | none=>
  refine SRel.bnd (R:=fun _ o p=>(∃ a n,o=.number a n)∧∃ a n,p=.number a n) (.getObj (hl _ _ h) fun a b n hab=>.pure ⟨⟨_,_,rfl⟩,⟨_,_,rfl⟩⟩) fun δ hl2 o p hop=>?_
  .obtain ⟨⟨a,n,rfl⟩,⟨a',n',rfl⟩⟩:=hop;exact .pure ⟨rfl,rfl⟩
def RNum (L:Lim):Bl→Option (Addr×Bool)→Option (Addr×Bool)→Prop
 | _,none,none=>True
 | β,some (a,m),some (b,n)=>ARel L β a b∧m=n
 | _,_,_=>False
theorem rel_numberAt {r s:Nat} (h:β r=some s):SRel P L (RNum L) β (numberAt r) (numberAt s):=by
 unfold numberAt;refine SRel.bnd (rel_shape h) fun γ hl a b e=>?_;subst e;cases a with
 | some x=>exact .pure trivial
 | none=>
  refine SRel.bnd (R:=fun γ o p=>∃ a b n,o=.number a n∧p=.number b n∧ARel L γ a b) (.getObj (hl _ _ h) fun a b n hab=>.pure ⟨_,_,_,rfl,rfl,hab⟩) fun δ hl2 o p hop=>?_
  .obtain ⟨a,b,n,rfl,rfl,hab⟩:=hop;exact .pure ⟨hab,rfl⟩
theorem rel_behind {a b:Addr} (h:ARel L β a b):SRel P L (fun γ x y=>ARel L γ x.1 y.1∧x.2=y.2) β (behindNumber a) (behindNumber b):=by
 unfold behindNumber;refine SRel.bnd (rel_numberAt h.1) fun γ hl x y hxy=>?_;cases x with
 | none=>cases y with
  | none=>exact .pure ⟨h.mono hl,rfl⟩
  | some y=>exact hxy.elim
 | some x=>cases y with
  | none=>exact hxy.elim
  | some y=>exact .pure hxy
theorem rel_noView {a b:Addr} (h:ARel L β a b):SRel P L RU β (noView a) (noView b):=by
 unfold noView;refine SRel.bnd (rel_viewAt h.1) fun γ hl x y hxy=>?_;obtain ⟨rfl,rfl⟩:=hxy;exact .pure trivial
theorem rel_byteOf {a b:Addr} (h:ARel L β a b):SRel P L RElt β (byteOf a) (byteOf b):=by
 unfold byteOf;rw [← h.2.2.1,← h.2.1];cases a.spot with
 | some s=>exact .pure rfl
 | none=>
  refine SameC.b same_program fun γ hl p=>SRel.bnd (rel_noView (h.mono hl)) fun δ hl2 _ _ _=>SRel.bnd (rel_shape ((h.mono hl).mono hl2).1) fun ε hl3 x y e=>?_;subst e;cases x with
  | none=>exact .stuck
  | some x=>
   dsimp only;split
   .exact .pure rfl
   .split
    .exact .pure rfl
    .exact .stuck
theorem rel_partAt {a b:Addr} (h:ARel L β a b) (n m:Nat):SRel P L (fun γ x y=>ARel L γ x y) β (partAt a n m) (partAt b n m):=by
 unfold partAt;refine SRel.bnd (rel_byteOf h) fun γ hl x y e=>?_;subst e;refine SRel.bnd (rel_byteOf (a:={ block:=a.block,off:=a.off+n }) (b:={ block:=b.block,off:=b.off+n }) ⟨(h.mono hl).1,by simp only [h.2.1],rfl,h.2.2.2⟩) fun δ hl2 x' y' e=>?_;subst e;refine .pure ?_;have h2:=(h.mono hl).mono hl2;split
 .exact ⟨h2.1,by simp only [h.2.1],rfl,h.2.2.2⟩
 .exact ⟨h2.1,by simp only [h.2.1],rfl,h.2.2.2⟩
theorem rel_fieldPlace {a b:Addr} (h:ARel L β a b) (f:Field):SRel P L (fun γ x y=>ARel L γ x y) β (fieldPlace a f) (fieldPlace b f):=by
 unfold fieldPlace;refine SameC.b (same_size _) fun γ hl n=>?_;split
 .exact rel_partAt (h.mono hl) _ _
 .exact .pure ((h.mono hl).add _)
theorem rel_fieldAt {x y:Value} (s:TypeId) (f:Nat) (h:VRel L β x y):SRel P L (RV L) β (Instr.fieldAt s x f) (Instr.fieldAt s y f):=by
 unfold Instr.fieldAt;refine SameC.b (same_underlying _) fun γ hl u=>?_;cases u with
 | struct fields=>
  dsimp only;cases fields[f]? with
  | none=>exact .stuck
  | some f=>
   exact SRel.bnd (rel_sureAddr (h.mono hl)) fun δ hl2 a b hab=>SRel.bnd (rel_fieldPlace hab f) fun ε hl3 a b hab=>.pure (.pointer hab)
 | _=>exact .stuck
theorem rel_loadAt {x y:Value} (t:TypeId) (h:VRel L β x y):SRel P L (RV L) β (Instr.loadAt t x) (Instr.loadAt t y):=
 SRel.bnd (rel_sureAddr h) fun γ hl a b hab=>rel_loadVar t hab
theorem rel_storeAt {x y u v:Value} (t:TypeId) (h:VRel L β x y) (hu:VRel L β u v):SRel P L RU β (Instr.storeAt t x u) (Instr.storeAt t y v):=
 SRel.bnd (rel_sureAddr h) fun γ hl a b hab=>rel_storeVar t hab (hu.mono hl)
theorem rel_alloc (hP:PL P L) (t:TypeId) (ht:t < P.types.size):SRel P L (RV L) β (Instr.alloc t true (.tuple #[])) (Instr.alloc t true (.tuple #[])):=by
 unfold Instr.alloc;exact SRel.bnd (rel_zero hP t ht) fun γ hl x y h=>SRel.bnd (rel_newVar t h) fun δ hl2 a b hab=>.pure (.pointer hab)
theorem rel_box {x y:Value} (t:TypeId) (h:VRel L β x y):SRel P L (RV L) β (Instr.box t x) (Instr.box t y):=
 SRel.bnd (rel_newVar t h) fun δ hl2 a b hab=>.pure (.pointer hab)
theorem rel_extract {x y:Value} (k:Nat) (h:VRel L β x y):SRel P L (RV L) β (Instr.extract x k) (Instr.extract y k):=by
 unfold Instr.extract;cases h with
 | tuple h1 h2=>
  rename_i as1 bs
  dsimp only;cases hv:as1[k]? with
  | none=>exact .stuck
  | some v=>
   obtain ⟨w,hw,hr⟩:=VsRel.get ⟨h1,h2⟩ hv;rw [hw];exact .pure hr
 | _=>exact .stuck
theorem rel_makeInterface {x y:Value} (t:TypeId) (ht:L.ty t) (h:VRel L β x y):SRel P L (RV L) β (Instr.makeInterface t x) (Instr.makeInterface t y):=by
 unfold Instr.makeInterface;refine SameC.b (same_underlying _) fun γ hl u=>?_;cases u with
 | interface _=>exact .stuck
 | _=>exact .pure (.iface t ht (h.mono hl))
theorem rel_indexAt {x y i j:Value} (t:TypeId) (h:VRel L β x y) (hi:VRel L β i j):SRel P L (RV L) β (Instr.indexAt t x i) (Instr.indexAt t y j):=by
 unfold Instr.indexAt;refine SRel.bnd (rel_asInt hi) fun γ hl p q e=>?_;subst e;obtain ⟨k,n⟩:=p;refine SameC.b (same_underlying _) fun δ hl2 u=>?_;have h2:=(h.mono hl).mono hl2;dsimp only;cases u with
 | array len elem=>
  refine SRel.bnd (rel_sureAddr h2) fun _ _ a b hab=>?_;refine SRel.bnd (R:=fun γ (p q:Option Addr×Nat×TypeId)=>OARel L γ p.1 q.1∧p.2=q.2) (.pure ⟨hab,rfl⟩) fun ε hl3 p q hpq=>?_;obtain ⟨pa,pl,pe⟩:=p;obtain ⟨qa,ql,qe⟩:=q;obtain ⟨h1,h2⟩:=hpq;cases h2;refine SameC.b (same_underlying _) fun ζ hl4 u2=>?_;dsimp only;cases pa with
  | none=>cases qa with
   | none=>exact rel_boundsPanic _ _ _ _
   | some _=>exact h1.elim
  | some a=>cases qa with
   | none=>exact h1.elim
   | some b=>
    dsimp only;split
    .exact SameC.b (same_size _) fun η hl5 m=>.pure (.pointer (a:=some _) (b:=some _) (((show ARel L _ a b from h1).mono (hl4.trans hl5)).add _))
    ·(repeat' split)<;>first | exact .unsup | exact rel_boundsPanic _ _ _ _
 | slice elem=>
  cases h2 with
  | slice n c h5=>
   refine SRel.bnd (R:=fun γ (p q:Option Addr×Nat×TypeId)=>OARel L γ p.1 q.1∧p.2=q.2) (.pure ⟨h5,rfl⟩) fun ε hl3 p q hpq=>?_;obtain ⟨pa,pl,pe⟩:=p;obtain ⟨qa,ql,qe⟩:=q;obtain ⟨h1,h2⟩:=hpq;cases h2;refine SameC.b (same_underlying _) fun ζ hl4 u2=>?_;dsimp only;cases pa with
   | none=>cases qa with
    | none=>exact rel_boundsPanic _ _ _ _
    | some _=>exact h1.elim
   | some a=>cases qa with
    | none=>exact h1.elim
    | some b=>
     dsimp only;split
     .exact SameC.b (same_size _) fun η hl5 m=>.pure (.pointer (a:=some _) (b:=some _) (((show ARel L _ a b from h1).mono (hl4.trans hl5)).add _))
     ·(repeat' split)<;>first | exact .unsup | exact rel_boundsPanic _ _ _ _
  | sliceZ a h=>
   refine SRel.pureB ?_;refine SameC.b (same_underlying _) fun ζ hl4 u2=>?_;dsimp only;split
   .rename_i h9;exfalso;have:=h9.2;have:=h9.1;simp at *;omega
   ·(repeat' split)<;>first | exact .unsup | exact rel_boundsPanic _ _ _ _
  | _=>exact .stuckB
 | _=>exact .stuckB
end
section
variable {P:Program} {L:Lim} {α α':Type} {R:Bl→α→α→Prop} {R':Bl→α'→α'→Prop} {β γ:Bl}
inductive PRel (L:Lim) (β:Bl):List (Nat×Value)→List (Nat×Value)→Prop
 | nil:PRel L β [] []
 | cons {x y:Value} {xs ys:List (Nat×Value)} (i:Nat) (h:VRel L β x y) (hs:PRel L β xs ys):PRel L β ((i,x) :: xs) ((i,y) :: ys)
theorem PRel.mono (hl:Bl.Le β γ) {xs ys:List (Nat×Value)} (h:PRel L β xs ys):PRel L γ xs ys:=by
 induction h with
 | nil=>exact .nil
 | cons i h _ ih=>exact .cons i (h.mono hl) ih
theorem fold_rel {off:Nat}:∀ {xs ys:List Value} (k:Nat) {as1 bs:Array Value},LRel L β xs ys→VsRel L β as1 bs →
 VsRel L β ((xs.zipIdx k).foldl (fun cs (p:Value×Nat)=>cs.setIfInBounds (off+p.2) p.1) as1) ((ys.zipIdx k).foldl (fun cs (p:Value×Nat)=>cs.setIfInBounds (off+p.2) p.1) bs)
 | _,_,k,as1,bs,.nil,h=>h
 | _,_,k,as1,bs,.cons hx hs,h=>fold_rel (k+1) hs (h.set _ hx)
def ROpt (L:Lim) (β:Bl):Option (Array Value)→Option (Array Value)→Prop
 | none,none=>True
 | some a,some b=>VsRel L β a b
 | _,_=>False
theorem fill_rel {place:Nat→Option (Nat×Nat)}:∀ {xs ys:List (Nat×Value)} {as1 bs:Array Value},PRel L β xs ys→VsRel L β as1 bs→ROpt L β (Instr.fill place as1 xs) (Instr.fill place bs ys)
 | _,_,as1,bs,.nil,h=>h
 | _,_,as1,bs,.cons (x:=x) (y:=y) (xs:=xs) (ys:=ys) i hx hs,h=>by
  have hc:=VsRel.cells hx;unfold Instr.fill;cases place i with
  | none=>trivial
  | some p=>
   obtain ⟨off,size⟩:=p;dsimp only;rw [hc.1,h.1];split
   .trivial
   .refine fill_rel hs ?_;rw [← Array.foldl_toList,← Array.foldl_toList,Array.toList_zipIdx,Array.toList_zipIdx];exact fold_rel 0 hc.toL h
theorem map_rel {parts:Array (Nat×Operand)} {ρ σ:Operand→Value} (h:∀ p∈parts.toList,VRel L β (ρ p.2) (σ p.2)):PRel L β (parts.map fun (i,x)=>(i,ρ x)).toList (parts.map fun (i,x)=>(i,σ x)).toList:=by
 rw [Array.toList_map,Array.toList_map]
 generalize parts.toList=l at h
 induction l with
 | nil=>exact .nil
 | cons p l ih=>exact .cons _ (h p List.mem_cons_self) (ih fun q hq=>h q (List.mem_cons_of_mem _ hq))
theorem same_mapM {A B:Type} {f:A→Sem B} (h:∀ a,SameC P L (f a)) (l:List A):SameC P L (l.mapM f):=fun β=>by
 induction l generalizing β with
 | nil=>exact .pure rfl
 | cons a l ih=>
  rw [List.mapM_cons];exact SameC.b (h a) fun γ hl b=>SameC.b (ih) fun δ hl2 c=>.pure rfl
theorem same_mapMA {A B:Type} {f:A→Sem B} (h:∀ a,SameC P L (f a)) (l:Array A):SameC P L (l.mapM f):=fun β=>by
 rw [Array.mapM_eq_mapM_toList];exact SRel.bnd (same_mapM h _ β) fun γ hl a b e=>by subst e;exact .pure rfl
theorem rel_build (hP:PL P L) {xs ys:Array (Nat×Value)} (t:TypeId) (ht:t < P.types.size) (h:PRel L β xs.toList ys.toList):SRel P L (RV L) β (Instr.build t xs) (Instr.build t ys):=by
 unfold Instr.build;refine SRel.bnd (rel_zero hP t ht) fun γ hl z z' hz=>SameC.b (same_underlying _) fun δ hl2 u=>?_;have hz2:=(VsRel.cells hz).mono hl2;have h2:=(h.mono hl).mono hl2;cases u with
 | struct fields=>
  dsimp only;refine SameC.b (same_mapMA (fun f=>fun β=>SameC.b (same_size _) fun _ _ _=>.pure rfl) _) fun ε hl3 places=>?_;have h4:=fill_rel (place:=(places[·]?)) (h2.mono hl3) (hz2.mono hl3)
  revert h4
  cases Instr.fill (places[·]?) z.cells xs.toList with
  | none=>exact fun _=>.stuck
  | some a=>cases Instr.fill (places[·]?) z'.cells ys.toList with
   | none=>exact fun h=>h.elim
   | some b=>exact fun h=>.pure (.agg h.1 h.2)
 | array n elem=>
  dsimp only;refine SameC.b (same_size _) fun ε hl3 size=>?_;have h4:=fill_rel (place:=fun i=>some (i * size,size)) (h2.mono hl3) (hz2.mono hl3)
  revert h4
  cases Instr.fill (fun i=>some (i * size,size)) z.cells xs.toList with
  | none=>exact fun _=>.stuck
  | some a=>cases Instr.fill (fun i=>some (i * size,size)) z'.cells ys.toList with
   | none=>exact fun h=>h.elim
   | some b=>exact fun h=>.pure (.agg h.1 h.2)
 | _=>exact .stuck
theorem VRel.default (L:Lim) (β:Bl):VRel L β (default:Value) default:=.bool _
theorem VsRel.getD {as1 bs:Array Value} (h:VsRel L β as1 bs) (i:Nat):VRel L β as1[i]! bs[i]!:=by
 rw [getElem!_def,getElem!_def];cases hv:as1[i]? with
 | none=>rw [h.none hv];exact VRel.default L β
 | some v=>
  obtain ⟨w,hw,hr⟩:=h.get hv;rw [hw];exact hr
theorem zeros_rel {as1 bs:Array Value} (h:VsRel L β as1 bs) (n:Nat):VsRel L β ((Array.range n).map (as1[· % as1.size]!)) ((Array.range n).map (bs[· % bs.size]!)):=by
 refine ⟨by simp,fun i v w h1 h2=>?_⟩;simp only [Array.getElem?_map,Option.map_eq_some_iff] at h1 h2;obtain ⟨a,h3,rfl⟩:=h1;obtain ⟨b,h4,rfl⟩:=h2;rw [h3] at h4;cases h4;rw [← h.1];exact h.getD _
theorem rel_buildSlice (hP:PL P L) {xs ys:Array (Nat×Value)} (t:TypeId) (n:Nat) (ht:ZE P t) (h:PRel L β xs.toList ys.toList):SRel P L (RV L) β (Instr.buildSlice t n xs) (Instr.buildSlice t n ys):=by
 unfold Instr.buildSlice;refine SRel.bnd (same_underP t) fun γ hl u u' e0=>?_;obtain ⟨rfl,e0⟩:=e0;cases u with
 | slice elem=>
  refine SameC.b (same_size _) fun δ hl2 size=>?_;dsimp only;split
  .exact .unsupB
  .split
   .refine SRel.bnd (R:=fun γ a b=>VsRel L γ a b) (.pure VsRel.nil) fun ε hl3 z z' hz=>?_;have h4:=fill_rel (place:=fun i=>some (i * size,size)) ((h.mono (hl.trans hl2)).mono hl3) (zeros_rel hz (n * size))
    revert h4
    cases Instr.fill (fun i=>some (i * size,size)) ((Array.range (n * size)).map (z[· % z.size]!)) xs.toList with
    | none=>exact fun _=>.stuck
    | some a=>cases Instr.fill (fun i=>some (i * size,size)) ((Array.range (n * size)).map (z'[· % z'.size]!)) ys.toList with
     | none=>exact fun h=>h.elim
     | some b=>exact fun h=>SRel.bnd (rel_newRow elem h) fun _ _ a b hab=>.pure (.slice _ _ (a:=some a) (b:=some b) hab)
   .refine SRel.bnd (rel_zero hP elem (ht elem e0)) fun γ2 hl5 w w' hw=>?_;refine SRel.bnd (R:=fun γ a b=>VsRel L γ a b) (.pure (VsRel.cells hw)) fun ε hl3 z z' hz=>?_;have h4:=fill_rel (place:=fun i=>some (i * size,size)) ((h.mono (hl.trans hl2)).mono (hl5.trans hl3)) (zeros_rel hz (n * size))
    revert h4
    cases Instr.fill (fun i=>some (i * size,size)) ((Array.range (n * size)).map (z[· % z.size]!)) xs.toList with
    | none=>exact fun _=>.stuck
    | some a=>cases Instr.fill (fun i=>some (i * size,size)) ((Array.range (n * size)).map (z'[· % z'.size]!)) ys.toList with
     | none=>exact fun h=>h.elim
     | some b=>exact fun h=>SRel.bnd (rel_newRow elem h) fun _ _ a b hab=>.pure (.slice _ _ (a:=some a) (b:=some b) hab)
 | _=>exact .stuck
def RO (L:Lim) (β:Bl):Option Value→Option Value→Prop
 | none,none=>True
 | some a,some b=>VRel L β a b
 | _,_=>False
theorem RO.mono (hl:Bl.Le β γ) {a b:Option Value} (h:RO L β a b):RO L γ a b:=by
 cases a<;>cases b<;>first | exact h | exact VRel.mono hl h
def RB (n c:Nat):Bl→Nat×Nat×Nat→Nat×Nat×Nat→Prop:=fun _ p q=>p=q∧p.2.2≤c∧(p.2.1≤p.2.2∨p.2.1=n)
theorem rel_sliceBound4 {x y:Value} (k:Nat) (c:BoundsCode) (h:VRel L β x y):SRel P L (fun _ a b=>a=b∧a≤k) β (Instr.sliceBound x k c) (Instr.sliceBound y k c):=by
 unfold Instr.sliceBound;refine SRel.bnd (rel_asInt h) fun γ hl p q e=>?_;subst e;obtain ⟨kk,i⟩:=p;dsimp only;split
 .exact .pure ⟨rfl,by omega⟩
 .exact rel_boundsPanic _ _ _ _
theorem rel_bounds4 {lo lo' hi hi' mx mx':Option Value} (s:Bool) (n c:Nat) (h1:RO L β lo lo') (h2:RO L β hi hi') (h3:RO L β mx mx'):SRel P L (RB n c) β (Instr.sliceBounds s n c lo hi mx) (Instr.sliceBounds s n c lo' hi' mx'):=by
 unfold Instr.sliceBounds;cases mx with
 | none=>cases mx' with
  | none=>
   refine SRel.pureB ?_;cases hi with
   | none=>cases hi' with
    | none=>
     refine SRel.pureB ?_;cases lo with
     | none=>cases lo' with
      | none=>exact .pure ⟨rfl,by first | exact Nat.le_refl _ | exact e8,by first | exact .inl e9 | exact .inr rfl⟩
      | some _=>exact h1.elim
     | some v=>cases lo' with
      | none=>exact h1.elim
      | some w=>exact SRel.bnd (rel_sliceBound4 _ _ (VRel.mono (Bl.Le.refl _) h1)) fun _ _ a b e=>by obtain ⟨rfl,e7⟩:=e;exact .pure ⟨rfl,by first | exact Nat.le_refl _ | exact e8,by first | exact .inl e9 | exact .inr rfl⟩
    | some _=>exact h2.elim
   | some hv=>cases hi' with
    | none=>exact h2.elim
    | some hw=>
     refine SRel.bnd (rel_sliceBound4 _ _ (VRel.mono (Bl.Le.refl _) h2)) fun γ9 hl9 a b e=>?_;obtain ⟨rfl,e9⟩:=e;cases lo with
     | none=>cases lo' with
      | none=>exact .pure ⟨rfl,by first | exact Nat.le_refl _ | exact e8,by first | exact .inl e9 | exact .inr rfl⟩
      | some _=>exact h1.elim
     | some v=>cases lo' with
      | none=>exact h1.elim
      | some w=>exact SRel.bnd (rel_sliceBound4 _ _ (VRel.mono (Bl.Le.trans (Bl.Le.refl _) hl9) h1)) fun _ _ a b e=>by obtain ⟨rfl,e7⟩:=e;exact .pure ⟨rfl,by first | exact Nat.le_refl _ | exact e8,by first | exact .inl e9 | exact .inr rfl⟩
  | some _=>exact h3.elim
 | some mv=>cases mx' with
  | none=>exact h3.elim
  | some mw=>
   refine SRel.bnd (rel_sliceBound4 _ _ h3) fun γ8 hl8 a b e=>?_;obtain ⟨rfl,e8⟩:=e;cases hi with
   | none=>cases hi' with
    | none=>exact .stuckB
    | some _=>exact h2.elim
   | some hv=>cases hi' with
    | none=>exact h2.elim
    | some hw=>
     refine SRel.bnd (rel_sliceBound4 _ _ (VRel.mono hl8 h2)) fun γ9 hl9 a b e=>?_;obtain ⟨rfl,e9⟩:=e;cases lo with
     | none=>cases lo' with
      | none=>exact .pure ⟨rfl,by first | exact Nat.le_refl _ | exact e8,by first | exact .inl e9 | exact .inr rfl⟩
      | some _=>exact h1.elim
     | some v=>cases lo' with
      | none=>exact h1.elim
      | some w=>exact SRel.bnd (rel_sliceBound4 _ _ (VRel.mono (Bl.Le.trans hl8 hl9) h1)) fun _ _ a b e=>by obtain ⟨rfl,e7⟩:=e;exact .pure ⟨rfl,by first | exact Nat.le_refl _ | exact e8,by first | exact .inl e9 | exact .inr rfl⟩
theorem rel_bounds3 {lo lo' hi hi' mx mx':Option Value} (s:Bool) (n c:Nat) (h1:RO L β lo lo') (h2:RO L β hi hi') (h3:RO L β mx mx'):SRel P L RElt β (Instr.sliceBounds s n c lo hi mx) (Instr.sliceBounds s n c lo' hi' mx'):=
 (rel_bounds4 s n c h1 h2 h3).imp fun _ _ _ h=>h.1
theorem rel_asAddr {x y:Value} (h:VRel L β x y):SRel P L (fun γ a b=>ARel L γ a b) β (asAddr x) (asAddr y):=by
 cases h with
 | pointer h=>
  rename_i a b
  cases a<;>cases b<;>first | exact rel_nil | exact .pure h | exact absurd h (by simp [OARel])
 | _=>exact .stuck
theorem add_blockC (a:Addr) (n:Nat):(a.add n).block=a.block:=by unfold Addr.add;split<;>rfl
theorem oadd_rel {a b:Option Addr} (h:OARel L β a b) (n:Nat):OARel L β (a.map (·.add n)) (b.map (·.add n)):=by
 cases a<;>cases b<;>first | exact h | exact ARel.add h n
theorem rel_slice {x y:Value} {lo lo' hi hi' mx mx':Option Value} (t:TypeId) (h:VRel L β x y) (h1:RO L β lo lo') (h2:RO L β hi hi') (h3:RO L β mx mx'):SRel P L (RV L) β (Instr.sliceAt t x lo hi mx) (Instr.sliceAt t y lo' hi' mx'):=by
 unfold Instr.sliceAt;refine SameC.b (same_underlying _) fun γ hl u=>?_;have hx:=h.mono hl;have g1:=h1.mono hl;have g2:=h2.mono hl;have g3:=h3.mono hl;have rest:SRel P L (RV L) γ (Instr.slice t x lo hi mx) (Instr.slice t y lo' hi' mx'):=by
  unfold Instr.slice;refine SameC.b (same_underlying _) fun δ hl2 u2=>?_;have hx2:=hx.mono hl2;cases u2 with
  | string=>
   cases hx2 with
   | string s=>
    have e:mx.isSome=mx'.isSome:=by cases mx<;>cases mx'<;>first | rfl | exact h3.elim
    dsimp only;rw [e];split
    .exact .stuckB
    .exact SRel.bnd (rel_bounds3 false s.size s.size (g1.mono hl2) (g2.mono hl2) (mx:=none) (mx':=none) trivial) fun ε hl3 p q e=>by subst e;exact .pure (.string _)
   | _=>exact .stuck
  | slice elem=>
   cases hx2 with
   | sliceZ a ha=>
    refine SRel.bnd (rel_bounds4 true 0 0 (g1.mono hl2) (g2.mono hl2) (g3.mono hl2)) fun ε hl3 p q e=>?_;obtain ⟨rfl,e1,e2⟩:=e;obtain ⟨l,hh,m⟩:=p;refine SameC.b (same_size _) fun ζ hl4 size=>.pure ?_;have z1:hh - l=0:=by simp only at e1 e2;omega
    have z2:m - l=0:=by simp only at e1;omega
    rw [z1,z2];split
    .exact .sliceZ a ha
    .exact .sliceZ _ (by rw [add_blockC];exact ha)
   | slice n c h5=>
    refine SRel.bnd (rel_bounds3 true n c (g1.mono hl2) (g2.mono hl2) (g3.mono hl2)) fun ε hl3 p q e=>?_;subst e;obtain ⟨l,hh,m⟩:=p;refine SameC.b (same_size _) fun ζ hl4 size=>.pure (.slice _ _ ?_);split
    .exact (h5.mono hl3).mono hl4
    .exact oadd_rel ((h5.mono hl3).mono hl4) _
   | _=>exact .stuck
  | pointer arr=>
   refine SRel.bnd (rel_asAddr hx2) fun ε hl3 a b hab=>SameC.b (same_underlying _) fun ζ hl4 u3=>?_;cases u3 with
   | array n elem=>
    refine SRel.bnd (rel_bounds3 false n n (((g1.mono hl2).mono hl3).mono hl4) (((g2.mono hl2).mono hl3).mono hl4) (((g3.mono hl2).mono hl3).mono hl4)) fun η hl5 p q e=>?_;subst e;obtain ⟨l,hh,m⟩:=p;refine SameC.b (same_size _) fun θ hl6 size=>.pure (.slice (a:=some _) (b:=some _) _ _ ?_);have h6:=((hab.mono hl4).mono hl5).mono hl6;by_cases e:m=l
    .rw [if_pos e,if_pos e];exact h6
    .rw [if_neg e,if_neg e];exact h6.add _
   | _=>exact .stuck
  | _=>exact .stuck
 cases u with
 | array n elem=>
  refine SRel.bnd (rel_sureAddr hx) fun δ hl2 a b hab=>SRel.bnd (rel_bounds3 false n n (g1.mono hl2) (g2.mono hl2) (g3.mono hl2)) fun ε hl3 p q e=>?_;subst e;obtain ⟨l,hh,m⟩:=p;refine SameC.b (same_size _) fun ζ hl4 size=>.pure (.slice (a:=some _) (b:=some _) _ _ ?_);have h6:=(hab.mono hl3).mono hl4;by_cases e:m=l
  .rw [if_pos e,if_pos e];exact h6
  .rw [if_neg e,if_neg e];exact h6.add _
 | _=>exact rest
end
section
variable {P:Program} {L:Lim} {α α':Type} {R:Bl→α→α→Prop} {R':Bl→α'→α'→Prop} {β γ:Bl}
theorem rel_unary {x y:Value} (op:UnOp) (ho:op=.not∨op=.neg) (h:VRel L β x y):SRel P L (RV L) β (Op.unary op x) (Op.unary op y):=by
 rcases ho with rfl | rfl
 .cases h with
  | bool b=>exact .pure (.bool _)
  | _=>exact .stuck
 .cases h with
  | int k n=>exact .pure (.int _ _)
  | pointer h=>
   rename_i a b
   cases a<;>cases b<;>first | exact .stuck | exact .unsup | exact absurd h (by simp [OARel])
  | _=>exact .stuck
theorem rel_convert {x y:Value} {s d:TypeId} {k k':IntKind} (hs:P.underlying s=some (.int k')) (hd:P.underlying d=some (.int k)) (h:VRel L β x y):SRel P L (RV L) β (convert s d x) (convert s d y):=by
 unfold convert;refine SRel.bnd (same_underP s) fun γ hl a b e=>?_;obtain ⟨rfl,e1⟩:=e;rw [hs] at e1;cases e1;refine SRel.bnd (same_underP d) fun δ hl2 a b e=>?_;obtain ⟨rfl,e1⟩:=e;rw [hd] at e1;cases e1;cases (h.mono hl).mono hl2 with
 | int k n=>exact .pure (.int _ _)
 | @pointer p q h=>cases p<;>cases q<;>first | exact .unsup | exact absurd h (by simp [OARel])
 | _=>exact .unsup
theorem rel_typeAssert (hP:PL P L) {x y:Value} (t u:TypeId) (hu:u < P.types.size) (h:VRel L β x y):SRel P L (RV L) β (Instr.typeAssert x t u true) (Instr.typeAssert y t u true):=by
 have bad:∀ γ,SRel P L (RV L) γ (zeroValue u >>= fun z=>Pure.pure (.tuple #[z,.bool false])) (zeroValue u >>= fun z=>Pure.pure (.tuple #[z,.bool false])):=fun γ=>
  SRel.bnd (rel_zero hP u hu) fun δ hl z z' hz=>.pure (.tuple rfl fun i v w h1 h2=>(VsRel.nil.push hz |>.push (.bool false)).2 i v w h1 h2)
 have good:∀ γ x y,VRel L γ x y→VRel L γ (.tuple #[x,.bool true]) (.tuple #[y,.bool true]):=fun γ x y hz=>.tuple rfl fun i v w h1 h2=>(VsRel.nil.push hz |>.push (.bool true)).2 i v w h1 h2;unfold Instr.typeAssert;refine SameC.b (same_underlying _) fun γ hl d=>?_;cases h.mono hl with
 | nilIface=>cases d<;>exact bad _
 | iface n ht hv=>
  cases d with
  | interface want=>
   refine SameC.b (same_info _) fun δ hl2 i=>?_;dsimp only;cases Instr.missingMethod want i.methods with
   | none=>exact .pure (good _ _ _ ((VRel.iface n ht hv).mono hl2))
   | some m=>exact bad _
  | _=>
   dsimp only;split
   .exact .pure (good _ _ _ hv)
   .exact bad _
 | _=>cases d<;>exact .stuck
theorem rel_len {as1 bs:Array Value} (ts:Array TypeId) (t:TypeId) (h:VsRel L β as1 bs) (ht:∀ u,ts[0]?=some u→∃ e,P.underlying u=some (.slice e)):SRel P L (RV L) β (Builtin.len_ ts t as1) (Builtin.len_ ts t bs):=by
 unfold Builtin.len_;cases hu:ts[0]? with
 | none=>exact .stuck
 | some u=>
  obtain ⟨e,he⟩:=ht u hu;cases hv:as1[0]? with
  | none=>exact .stuck
  | some x=>
   obtain ⟨y,hy,hxy⟩:=h.get hv;rw [hy];refine SRel.bnd (same_underP u) fun γ hl a b e1=>?_;obtain ⟨rfl,e1⟩:=e1;rw [he] at e1;cases e1;cases hxy.mono hl with
   | slice n c h=>exact .pure (.int _ _)
   | sliceZ a h=>exact .pure (.int _ _)
   | _=>exact .stuck
theorem rel_nilCheck (hP:PL P L) {x y:Value} (h:VRel L β x y) (o:Oper) (z:Operand) (ho:o.op=.nilCheck z) {ρ σ:Operand→Value} (h1:ρ z=x) (h2:σ z=y) :
 SRel P L (fun γ a b=>∃ x y,a=.value x∧b=.value y∧VRel L γ x y) β (execOp ρ o) (execOp σ o):=by
 unfold execOp;rw [ho];dsimp only;rw [h1,h2];cases h with
 | poison h=>
  refine .dead fun w=>?_
  generalize y=z0
  unfold pz
  show ∃ e w', Sem.run P (program >>= fun p => nilAhead (p.types.size + Made.depth) L.bad z0 "" >>= _) w = .halt e w' ∧ _;rw [Sem.run_bind]
  show ∃ e w', Sem.run P (nilAhead (P.types.size + Made.depth) L.bad z0 "" >>= _) w = .halt e w' ∧ _
  generalize P.types.size+Made.depth=n
  rw [Sem.run_bind];cases n with
  | zero=>exact ⟨_,_,rfl,rfl⟩
  | succ n=>
   have : (nilAhead (n + 1) L.bad z0 "").run P w = .halt (.stuck "no such type") w := by
    unfold nilAhead;rw [Sem.run_bind];unfold typeInfo;rw [Sem.run_bind]
    show ((match P.info? L.bad with | some i => Pure.pure i | none => Go.stuck "no such type" : Sem TypeInfo).run P w).andThen _ = _;rw [hP.bad];rfl
   rw [this];exact ⟨_,_,rfl,rfl⟩
 | pointer h=>
  rename_i a b
  cases a<;>cases b<;>first | exact rel_nil | exact .pure ⟨_,_,rfl,rfl,.pointer h⟩ | exact absurd h (by simp [OARel])
 | nilFunc=>exact rel_nil
 | nilIface=>exact rel_nil
 | func f hf h3 h4 h5 h6=>exact .pure ⟨_,_,rfl,rfl,.func f hf h3 h4 h5 h6⟩
 | bool b=>exact .pure ⟨_,_,rfl,rfl,.bool b⟩
 | int k n=>exact .pure ⟨_,_,rfl,rfl,.int k n⟩
 | string s=>exact .pure ⟨_,_,rfl,rfl,.string s⟩
 | slice n c h=>exact .pure ⟨_,_,rfl,rfl,.slice n c h⟩
 | sliceZ a h=>exact .pure ⟨_,_,rfl,rfl,.sliceZ a h⟩
 | map=>exact .pure ⟨_,_,rfl,rfl,.map⟩
 | chan h=>exact .pure ⟨_,_,rfl,rfl,.chan h⟩
 | chan0=>exact .pure ⟨_,_,rfl,rfl,.chan0⟩
 | iface t ht h=>exact .pure ⟨_,_,rfl,rfl,.iface t ht h⟩
 | agg h3 h=>exact .pure ⟨_,_,rfl,rfl,.agg h3 h⟩
 | tuple h3 h=>exact .pure ⟨_,_,rfl,rfl,.tuple h3 h⟩
theorem rel_min2 {x y u v:Value} (h:VRel L β x y) (k:VRel L β u v):SRel P L (RV L) β (Builtin.min2 x u) (Builtin.min2 y v):=by
 cases h with
 | int k1 n1=>
  cases k with
  | int k2 n2=>exact .pure (.int _ _)
  | @pointer p q h=>cases p<;>cases q<;>first | exact .unsup | exact .stuck | exact absurd h (by simp [OARel])
  | _=>exact .stuck
 | @pointer p q h=>
  cases p<;>cases q<;>first
   | exact .unsup
   | (cases k with
    | @pointer p q h=>cases p<;>cases q<;>first | exact .unsup | exact .stuck | exact absurd h (by simp [OARel])
    | _=>exact .stuck)
   | exact absurd h (by simp [OARel])
 | string s=>
  cases k with
  | string t=>
   unfold Builtin.min2;dsimp only;refine SRel.bnd (R:=RV L) (.pure (.bool _)) fun γ hl a b hab=>SRel.bnd (rel_asBool hab) fun δ hl2 c d e=>?_;subst e;exact .pure (.string _)
  | @pointer p q h=>cases p<;>cases q<;>first | exact .unsup | exact .stuck | exact absurd h (by simp [OARel])
  | _=>exact .stuck
 | _=>
  cases k with
  | @pointer p q h=>cases p<;>cases q<;>first | exact .unsup | exact .stuck | exact absurd h (by simp [OARel])
  | _=>exact .stuck
theorem rel_minFold:∀ {xs ys:List Value} {β:Bl} {x y:Value},LRel L β xs ys→VRel L β x y→SRel P L (RV L) β (xs.foldlM Builtin.min2 x) (ys.foldlM Builtin.min2 y)
 | _,_,β,x,y,.nil,h=>.pure h
 | _,_,β,x,y,.cons hx hs,h=>SRel.bnd (rel_min2 h hx) fun γ hl a b hab=>rel_minFold (hs.mono hl) hab
theorem rel_min {as1 bs:Array Value} (ts:Array TypeId) (t:TypeId) (h:VsRel L β as1 bs):SRel P L (RV L) β (Builtin.min_ ts t as1) (Builtin.min_ ts t bs):=by
 unfold Builtin.min_;have h2:=h.toL
 revert h2
 generalize as1.toList=l
 generalize bs.toList=m
 intro h2;cases h2 with
 | nil=>exact .stuck
 | cons hx hs=>exact rel_minFold hs hx
theorem rel_lenOf {x y:Value} (h:VRel L β x y):SRel P L (fun _ a b=>a=b∧∀ p m c,x=.slice p m c→a=m) β (Builtin.lenOf x) (Builtin.lenOf y):=by
 cases h with
 | slice n c h=>exact .pure ⟨rfl,fun p m c e=>by cases e;rfl⟩
 | sliceZ a h=>exact .pure ⟨rfl,fun p m c e=>by cases e;rfl⟩
 | string s=>exact .pure ⟨rfl,fun p m c e=>by cases e⟩
 | _=>exact .stuck
theorem rel_firstCells {x y:Value} (size n:Nat) (h:VRel L β x y) (hn:∀ p m c,x=.slice p m c→n=m):SRel P L (fun γ a b=>VsRel L γ a b) β (Builtin.firstCells size n x) (Builtin.firstCells size n y):=by
 cases h with
 | @slice p q m c h=>cases p<;>cases q<;>first | exact .pure VsRel.nil | exact rel_cells _ h | exact absurd h (by simp [OARel])
 | sliceZ a h=>
  obtain rfl:=hn _ _ _ rfl;show SRel P L _ β (loadCells a (0 * size)) (loadCells a (0 * size));rw [Nat.zero_mul];exact .pure VsRel.nil
 | string s=>
  refine .pure ⟨rfl,fun i v w h1 h2=>?_⟩;rw [h1] at h2;cases h2;simp only [Array.getElem?_map,Option.map_eq_some_iff] at h1;obtain ⟨b,_,rfl⟩:=h1;exact .int _ _
 | _=>exact .stuck
theorem rel_firstCells0 {x y:Value} (size:Nat) (h:VRel L β x y) (hn:∀ p m c,x=.slice p m c→0=m):SRel P L (fun γ a b=>a=#[]∧b=#[]) β (Builtin.firstCells size 0 x) (Builtin.firstCells size 0 y):=by
 have z:∀ a:Addr,loadCells a (0 * size)=(Pure.pure #[]:Sem (Array Value)):=fun a=>by rw [Nat.zero_mul];rfl
 cases h with
 | @slice p q m c h=>cases p<;>cases q<;>first | exact .pure ⟨rfl,rfl⟩ | (unfold Builtin.firstCells;dsimp only;rw [z,z];exact .pure ⟨rfl,rfl⟩) | exact absurd h (by simp [OARel])
 | sliceZ a h=>unfold Builtin.firstCells;dsimp only;rw [z];exact .pure ⟨rfl,rfl⟩
 | string s=>exact .pure ⟨by simp,by simp⟩
 | _=>exact .stuck
def Oke (P:Program) {α:Type} (s:Sem α):Prop:=∀ w,∃ b,s.run P w=.ok b w
theorem Oke.bnd {s:Sem α} {f:α→Sem α'} (h:Oke P s) (hf:∀ a,Oke P (f a)):Oke P (s >>= f):=fun w=>by
 obtain ⟨b,hb⟩:=h w;obtain ⟨c,hc⟩:=hf b w;exact ⟨c,by rw [Sem.run_bind,hb];exact hc⟩
theorem Oke.pure (a:α):Oke P (Pure.pure a):=fun w=>⟨a,rfl⟩
theorem Oke.holds (a:Addr) (n:Nat):Oke P (Builtin.holdsCells a n):=by
 unfold Builtin.holdsCells;refine Oke.bnd (fun w=>⟨_,rfl⟩) fun x=>?_;cases x<;>exact Oke.pure _
theorem mayShare_ok (size m n:Nat) (p:Option Addr) (x:Value):Oke P (Builtin.mayShare size m n p x):=by
 have tail:Oke P (match x with | .slice (some b) _ _=>Builtin.holdsCells b (n * size) >>= fun r=>Pure.pure (!r || p.any (·.block == b.block)) | _=>(Pure.pure false:Sem Bool)):=by
  cases x with
  | slice a k c=>
   cases a with
   | none=>exact Oke.pure _
   | some b=>exact Oke.bnd (Oke.holds _ _) fun _=>Oke.pure _
  | _=>exact Oke.pure _
 unfold Builtin.mayShare;cases p with
 | none=>exact Oke.bnd (Oke.pure true) fun b=>by cases b<;>first | exact Oke.pure _ | exact tail
 | some a=>
  refine Oke.bnd (Oke.holds _ _) fun r=>Oke.bnd (fun w=>⟨w.frozen? (a.add (m / 2 * size)),rfl⟩) fun f=>Oke.bnd (Oke.pure _) fun b=>?_;cases b
  .exact Oke.pure _
  .exact tail
theorem Oke.dead {s:Sem α} (h:Oke P s) {f:α→Sem α'} {u:Sem α'} (hf:∀ a w,∃ e w',(f a).run P w=.halt e w'∧qh e=true):SRel P L R' β (s >>= f) u:=.dead fun w=>by
 obtain ⟨b,hb⟩:=h w;obtain ⟨e,w',h1,h2⟩:=hf b w;exact ⟨e,w',by rw [Sem.run_bind,hb];exact h1,h2⟩
theorem rel_errorB {m m':String} {f g:α→Sem α'}:SRel P L R' β ((runtimePanic (.error m):Sem α) >>= f) ((runtimePanic (.error m'):Sem α) >>= g):=.program .panic
theorem zeroCells_rel {as1 bs:Array Value} (h:VsRel L β as1 bs) (n:Nat):VsRel L β (Builtin.zeroCells as1 n) (Builtin.zeroCells bs n):=by
 unfold Builtin.zeroCells;have:=zeros_rel h (n * as1.size);rw [← h.1];rw [← h.1] at this;exact this
theorem rel_append (hP:PL P L) {as1 bs:Array Value} (ts:Array TypeId) (t:TypeId) (h:VsRel L β as1 bs) (h0:∀ u,ts[0]?=some u→∃ e,P.underlying u=some (.slice e)∧e < P.types.size) (h1:∃ u e,ts[1]?=some u∧P.underlying u=some (.slice e)):SRel P L (RV L) β (Builtin.append_ ts t as1) (Builtin.append_ ts t bs):=by
 unfold Builtin.append_;cases hu:ts[0]? with
 | none=>exact .stuck
 | some u=>
 cases hv:as1[0]? with
 | none=>exact .stuck
 | some x=>
 cases hv1:as1[1]? with
 | none=>exact .stuck
 | some x1=>
 obtain ⟨y,hy,hxy⟩:=h.get hv;obtain ⟨y1,hy1,hxy1⟩:=h.get hv1;rw [hy,hy1];obtain ⟨e,he,hez⟩:=h0 u hu;refine SRel.bnd (same_underP u) fun γ hl a b e1=>?_;obtain ⟨rfl,e1⟩:=e1;rw [he] at e1;cases e1;dsimp only
 have body:∀ (p q:Option Addr) (m c:Nat),VRel L γ (.slice p m c) (.slice q m c)→(OARel L γ p q∨(m=0∧c=0∧∃ a,p=some a∧q=some a∧a.block < L.m)) →
  SRel P L (RV L) γ (do
   let size ← sizeOf e
   let zeros ← match ts[1]? with | some xType=>do pure ((← underlying xType) matches .int _) | none=>pure false
   let n ← if zeros then do
    let l:=IntKind.i64.wrap (← asInt x1)
    if l < 0 then runtimePanic (.error "makeslice: len out of range")
    if l * (← typeInfo e).bytes > 2 ^ 48 then
     let made ← choose (.extern "append.ofMake.carriedOut" 2)
     runtimePanic (.error (if made == 1 then "makeslice: len out of range" else "growslice: len out of range"))
    pure l.toNat
    else Builtin.lenOf x1
   let appended:Sem (Array Value):=
    if !zeros then Builtin.firstCells size n x1
    else if n * size=0 then pure #[]
    else do pure (Builtin.zeroCells (← zeroValue e).cells n)
   let need:=m+n
   if need≤c then
    let new ← appended
    if let some a:=p then storeCells (a.add (m * size)) new.toList
    pure (.slice p need c)
   else
    if (need : Int) > IntKind.i64.max ∧ (zeros ∨ (← typeInfo e).bytes = 0) then runtimePanic (.error "growslice: len out of range")
    if Builtin.nextslicecap need c * (← typeInfo e).bytes > 2 ^ 48 then (if zeros then runtimePanic (.error "growslice: len out of range") else do
     if !(← Builtin.mayShare size m n p x1) then mark .noRoom
     unsupported (.resourceLimit "append: a slice or a string whose bytes no memory bears"))
    let newCap ← choose (.appendCap need c e)
    askRoom (newCap * (← typeInfo e).bytes)
    let old ← Builtin.firstCells size m (.slice p m c)
    let new ← appended
    let rest:=Builtin.zeroCells (← zeroValue e).cells (newCap - need)
    pure (.slice (some (← newRow e (old++new++rest))) need newCap)) (do
   let size ← sizeOf e
   let zeros ← match ts[1]? with | some xType=>do pure ((← underlying xType) matches .int _) | none=>pure false
   let n ← if zeros then do
    let l:=IntKind.i64.wrap (← asInt y1)
    if l < 0 then runtimePanic (.error "makeslice: len out of range")
    if l * (← typeInfo e).bytes > 2 ^ 48 then
     let made ← choose (.extern "append.ofMake.carriedOut" 2)
     runtimePanic (.error (if made == 1 then "makeslice: len out of range" else "growslice: len out of range"))
    pure l.toNat
    else Builtin.lenOf y1
   let appended:Sem (Array Value):=
    if !zeros then Builtin.firstCells size n y1
    else if n * size=0 then pure #[]
    else do pure (Builtin.zeroCells (← zeroValue e).cells n)
   let need:=m+n
   if need≤c then
    let new ← appended
    if let some a:=q then storeCells (a.add (m * size)) new.toList
    pure (.slice q need c)
   else
    if (need : Int) > IntKind.i64.max ∧ (zeros ∨ (← typeInfo e).bytes = 0) then runtimePanic (.error "growslice: len out of range")
    if Builtin.nextslicecap need c * (← typeInfo e).bytes > 2 ^ 48 then (if zeros then runtimePanic (.error "growslice: len out of range") else do
     if !(← Builtin.mayShare size m n q y1) then mark .noRoom
     unsupported (.resourceLimit "append: a slice or a string whose bytes no memory bears"))
    let newCap ← choose (.appendCap need c e)
    askRoom (newCap * (← typeInfo e).bytes)
    let old ← Builtin.firstCells size m (.slice q m c)
    let new ← appended
    let rest:=Builtin.zeroCells (← zeroValue e).cells (newCap - need)
    pure (.slice (some (← newRow e (old++new++rest))) need newCap)):=fun p q m c hs h5=>by
  refine SameC.b (same_size _) fun δ hl2 size=>?_;have hx1:=(hxy1.mono hl).mono hl2;obtain ⟨u1,e2,hu1,he2⟩:=h1;rw [hu1];refine SRel.bnd (same_underP u1) fun γ3 hl3 a b e3=>?_;obtain ⟨rfl,e3⟩:=e3;rw [he2] at e3;cases e3;refine SRel.pureB ?_;simp only [Bool.false_eq_true,if_false,Bool.not_false,if_true,false_or];refine SRel.bnd (rel_lenOf (hx1.mono hl3)) fun γ4 hl4 n n' e4=>?_;obtain ⟨rfl,e4⟩:=e4;have hx1:=(hx1.mono hl3).mono hl4;have hs4:=((hs.mono hl2).mono hl3).mono hl4;split
  .rename_i hfit
   rcases h5 with h5 | ⟨rfl,rfl,a,rfl,rfl,ha⟩
   .refine SRel.bnd (rel_firstCells _ _ hx1 e4) fun γ5 hl5 nw nw' hn=>?_;have h6:=OARel.mono hl5 (OARel.mono hl4 (OARel.mono hl3 (OARel.mono hl2 h5)));cases p with
    | none=>cases q with
     | none=>exact .pure (.slice _ _ h6)
     | some _=>exact h6.elim
    | some a=>cases q with
     | none=>exact h6.elim
     | some b=>exact SRel.bnd (rel_storeCells 0 (ARel.add h6 _) hn.toL) fun _ k _ _ _=>.pure (.slice _ _ (OARel.mono k h6))
   .rename_i n
    obtain rfl:n=0:=by omega
    refine SRel.bnd (rel_firstCells0 size hx1 e4) fun γ5 hl5 nw nw' hn=>?_;obtain ⟨rfl,rfl⟩:=hn;exact .pure (.sliceZ a ha)
  .refine SameC.b (same_info _) fun γ5 hl5 i=>?_;split
   .exact rel_errorB
   .refine SameC.b (same_info _) fun γ6 hl6 i2=>?_;split
    .refine SRel.bnd (R:=fun _ _ _=>False) (Oke.dead (mayShare_ok _ _ _ _ _) fun a w=>?_) fun G9 k9 a b e=>e.elim;cases a<;>exact ⟨_,_,rfl,rfl⟩
    .have KK:=hl5.trans hl6;refine SameC.b (same_choose _) fun G1 k1 newCap=>SameC.b (same_info _) fun G2 k2 i2=>SRel.bnd (rel_room _) fun G3 k3 _ _ _=>?_;refine SRel.bnd (rel_firstCells _ _ (hs4.mono (KK.trans (k1.trans (k2.trans k3)))) (fun p' m' c' e=>by cases e;rfl)) fun G4 k4 old old' ho=>?_;refine SRel.bnd (rel_firstCells _ _ ((hx1.mono (KK.trans (k1.trans (k2.trans k3)))).mono k4) e4) fun G5 k5 nw nw' hn=>?_;refine SRel.bnd (rel_zero hP _ hez) fun G6 k6 z z' hz=>?_;have hzc:=zeroCells_rel (VsRel.cells hz) (newCap - (m+n));exact SRel.bnd (rel_newRow _ ((((ho.mono k5).mono k6).append (hn.mono k6)).append hzc)) fun G7 k7 a b hab=>.pure (.slice (a:=some a) (b:=some b) _ _ hab)
 cases hxy.mono hl with
 | @slice p q m c h5=>exact body p q m c (.slice m c h5) (.inl h5)
 | sliceZ a ha=>exact body (some a) (some a) 0 0 (.sliceZ a ha) (.inr ⟨rfl,rfl,a,rfl,rfl,ha⟩)
 | _=>exact .stuck
end

