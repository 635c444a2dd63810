/- -/
import Derived.Test.YtiblbnkpjmmjaaaGreatQ05
import Derived.Conc.Own2
import Derived.Conc.Own5
import Derived.Conc.Know
set_option maxRecDepth 100000
set_option maxHeartbeats 16000000
set_option linter.all false
namespace Go.Proofs.YtiblbnkpjmmjaaaGreat
open Go.Conc
abbrev Set_:=Nat→Prop
structure Ry (O:Set_) (w w1:World):Prop where
 tape:w1.tape=w.tape
 os:w1.os=w.os
 output:w1.output=w.output
 size:w.heap.size≤w1.heap.size
 keep:∀ x,O x→w1.heap[x]?=w.heap[x]?
structure Gu (O:Set_) (w w':World) (es:Array Event):Prop where
 tape:w'.tape=w.tape
 os:w'.os=w.os
 output:w'.output=w.output
 size:w.heap.size≤w'.heap.size
 keep:∀ x,x < w.heap.size→¬ O x→w'.heap[x]?=w.heap[x]?
 ev:∀ e∈es,e.loc=.mark .noRoom∨∃ x,AtB e.loc x∧(O x∨(w.heap.size≤x∧x < w'.heap.size))
def Grow (O:Set_) (w w':World):Set_:=fun x=>O x∨(w.heap.size≤x∧x < w'.heap.size)
theorem Ry.refl (O:Set_) (w:World):Ry O w w:=⟨rfl,rfl,rfl,Nat.le_refl _,fun _ _=>rfl⟩
theorem Ry.trans {O:Set_} {a b c:World} (h:Ry O a b) (k:Ry O b c):Ry O a c:=
 ⟨k.tape.trans h.tape,k.os.trans h.os,k.output.trans h.output,Nat.le_trans h.size k.size,fun x hx=>(k.keep x hx).trans (h.keep x hx)⟩
theorem Ry.sub {O O':Set_} {a b:World} (h:Ry O a b) (hs:∀ x,O' x→O x):Ry O' a b:=⟨h.tape,h.os,h.output,h.size,fun x hx=>h.keep x (hs x hx)⟩
theorem Gu.idle {O:Set_} {w:World}:Gu O w w #[]:=⟨rfl,rfl,rfl,Nat.le_refl _,fun _ _ _=>rfl,by simp⟩
inductive Co (P:Program) (main:Bool) (Stop:Set_→Goroutine→World→Prop):Set_→Goroutine→World→Prop
 | stop {O:Set_} {g:Goroutine} {w:World} (h:∀ w1,Ry O w w1→Stop O g w1):Co P main Stop O g w
 | step {O:Set_} {g:Goroutine} {w:World} (hs:g.status=.running) (h1:∀ w1,Ry O w w1→∃ g' w' es,stepG P main g w1=.go g' w' es∧Gu O w1 w' es)
  (h2:∀ w1 g' w' es,Ry O w w1→stepG P main g w1=.go g' w' es→Co P main Stop (Grow O w1 w') g' w'):Co P main Stop O g w
section
variable {P:Program} {main:Bool} {Stop Stop':Set_→Goroutine→World→Prop} {O:Set_} {g:Goroutine} {w w1:World}
theorem Co.rely (h:Co P main Stop O g w) (hr:Ry O w w1):Co P main Stop O g w1:=by
 cases h with
 | stop h=>exact .stop fun w2 h2=>h w2 (hr.trans h2)
 | step hs h1 h2=>exact .step hs (fun w2 h3=>h1 w2 (hr.trans h3)) fun w2 g' w' es h3=>h2 w2 g' w' es (hr.trans h3)
theorem Co.mono (h:Co P main Stop O g w) (hm:∀ O g w,Stop O g w→Stop' O g w):Co P main Stop' O g w:=by
 induction h with
 | stop h=>exact .stop fun w2 h2=>hm _ _ _ (h w2 h2)
 | step hs h1 _ ih=>exact .step hs h1 ih
theorem Co.one {g':Goroutine} (hs:g.status=.running) (h:∀ w1,stepG P main g w1=.go g' w1) (k:Co P main Stop O g' w):Co P main Stop O g w:=by
 refine .step hs (fun w1 _=>⟨_,_,_,h w1,Gu.idle⟩) fun w1 g2 w2 es hr e=>?_;rw [h] at e;cases e;have hO:Grow O w1 w1=O:=funext fun x=>propext ⟨fun h=>h.elim id fun h=>absurd h.1 (by omega),.inl⟩;rw [hO];exact k.rely hr
end
structure Acc (O0:Set_) (β0:Bl) (v0 w0:World) (O:Set_) (β:Bl) (v w:World):Prop where
 le:Bl.Le β0 β
 new:∀ k x,β k=some x→β0 k=some x∨((¬ O0 x∨w0.heap.size≤x)∧v0.heap.size≤k)
 gv:v0.heap.size≤v.heap.size
 gw:w0.heap.size≤w.heap.size
 up:∀ x,O0 x→x < w0.heap.size→O x
 keep:∀ x,x < w0.heap.size→O0 x→(∀ k,β0 k≠some x)→w.heap[x]?=w0.heap[x]?
 os:w.os=w0.os
 output:w.output=w0.output
 tape:w.tape=w0.tape
def Named (O:Set_) (β:Bl):Prop:=∀ k x,β k=some x→O x
section
variable {P:Program} {L:Lim} {O0 O:Set_} {β0 β γ:Bl} {v0 v w0 w v' w' w1:World}
theorem Acc.refl (O:Set_) (β:Bl) (v w:World):Acc O β v w O β v w:=
 ⟨Bl.Le.refl _,fun _ _ h=>.inl h,Nat.le_refl _,Nat.le_refl _,fun _ h _=>h,fun _ _ _ _=>rfl,rfl,rfl,rfl⟩
theorem Acc.rely (h:Acc O0 β0 v0 w0 O β v w) (hr:Ry O w w1):Acc O0 β0 v0 w0 O β v w1:=
 ⟨h.le,h.new,h.gv,Nat.le_trans h.gw hr.size,h.up,fun x hx ho hn=>(hr.keep x (h.up x ho hx)).trans (h.keep x hx ho hn),hr.os.trans h.os,hr.output.trans h.output,hr.tape.trans h.tape⟩
theorem Acc.re (h:Acc O0 β0 v0 w0 O β v w) (τ:Tp) (d:Nat):Acc O0 β0 v0 w0 O β (reW v τ d) w:=
 ⟨h.le,h.new,h.gv,h.gw,h.up,h.keep,h.os,h.output,h.tape⟩
theorem Acc.foot (h:Acc O0 β0 v0 w0 O β v w) (f:Foot L β γ v w v' w'):Acc O0 β0 v0 w0 (Grow O w w') γ v' w':=by
 refine ⟨h.le.trans f.le,fun k x e=>?_,Nat.le_trans h.gv f.gv,Nat.le_trans h.gw f.gw,fun x hx hl=>.inl (h.up x hx hl),fun x hx ho hn=>?_,f.os.trans h.os,f.out.trans h.output,f.tw.trans h.tape⟩
 .rcases f.new k x e with e | ⟨e1,e2⟩
  .exact h.new k x e
  .exact .inr ⟨.inr (Nat.le_trans h.gw e1),Nat.le_trans h.gv e2⟩
 .refine (f.keep x (Nat.lt_of_lt_of_le hx h.gw) fun k e=>?_).trans (h.keep x hx ho hn);rcases h.new k x e with e | ⟨e | e,_⟩
  .exact hn k e
  .exact e ho
  .omega
theorem Acc.trans {O':Set_} {β':Bl} (h:Acc O0 β0 v0 w0 O β v w) (k:Acc O β v w O' β' v' w'):Acc O0 β0 v0 w0 O' β' v' w':=by
 refine ⟨h.le.trans k.le,fun i x e=>?_,Nat.le_trans h.gv k.gv,Nat.le_trans h.gw k.gw,fun x hx hl=>k.up x (h.up x hx hl) (Nat.lt_of_lt_of_le hl h.gw),fun x hx ho hn=>?_,k.os.trans h.os,k.output.trans h.output,k.tape.trans h.tape⟩
 .rcases k.new i x e with e | ⟨e | e,e2⟩
  .exact h.new i x e
  .refine .inr ⟨?_,Nat.le_trans h.gv e2⟩;rcases Nat.lt_or_ge x w0.heap.size with hl | hl
   .exact .inl fun hx=>e (h.up x hx hl)
   .exact .inr hl
  .exact .inr ⟨.inr (Nat.le_trans h.gw e),Nat.le_trans h.gv e2⟩
 .refine (k.keep x (Nat.lt_of_lt_of_le hx h.gw) (h.up x ho hx) fun i e=>?_).trans (h.keep x hx ho hn);rcases h.new i x e with e | ⟨e | e,_⟩
  .exact hn i e
  .exact e ho
  .omega
theorem WRel.ry (h:WRel L β v w) (hn:Named O β) (hr:Ry O w w1):WRel L β v w1:=
 ⟨fun k x e=>by rw [hr.keep x (hn k x e)];exact h.blk k x e,h.inj,h.sv,Nat.le_trans h.sw hr.size⟩
theorem WRel.re (h:WRel L β v w) (τ:Tp) (d:Nat):WRel L β (reW v τ d) w:=⟨h.blk,h.inj,h.sv,h.sw⟩
theorem Foot.gu (f:Foot L β γ v w v' w') (hn:Named O β) {es:Array Event} (he:∀ e∈es,EvOk γ e):Gu O w w' es:=by
 refine ⟨f.tw,f.os,f.out,f.gw,fun x hx ho=>f.keep x hx fun k e=>ho (hn k x e),fun e hm=>?_⟩;rcases he e hm with h | ⟨k,x,h1,h2⟩
 .exact .inl h
 .refine .inr ⟨x,h1,?_⟩;rcases f.new k x h2 with h3 | ⟨h3,_⟩
  .exact .inl (hn k x h3)
  .obtain ⟨_,p,_,h4,_⟩:=f.rel.blk k x h2;exact .inr ⟨h3,lt_of_heap h4⟩
theorem Foot.named (f:Foot L β γ v w v' w') (hn:Named O β):Named (Grow O w w') γ:=fun k x e=>by
 rcases f.new k x e with h3 | ⟨h3,_⟩
 .exact .inl (hn k x h3)
 .obtain ⟨_,p,_,h4,_⟩:=f.rel.blk k x e;exact .inr ⟨h3,lt_of_heap h4⟩
def nextT (w:World):Tp:=fun k q=>w.tape (w.drawn+k) q
theorem agree_next (v w:World):Agree (reW v (nextT w) 0) w:=fun j q=>by
 show w.tape (w.drawn+(0+j)) q=_;rw [Nat.zero_add]
theorem Tr.co (hP:PL P L) (hg:P.globals.size≤L.g) (hF:FnsOK P L) {main:Bool} {Stop:Set_→Goroutine→World→Prop} {S:Goroutine→World→Prop} {K:List Item} {rc:List Frame}
 (fin:∀ g v β h w O,S g v→GRel P L K rc β g h→WRel L β v w→Named O β→Acc O0 β0 v0 w0 O β v w→Co P main Stop O h w) {g:Goroutine} {v:World} (ht:Tr P L S g v) :
 ∀ {β:Bl} {h:Goroutine} {w:World} {O:Set_},GRel P L K rc β g h→WRel L β v w→Named O β→Acc O0 β0 v0 w0 O β v w→Co P main Stop O h w:=by
 induction ht with
 | stop hS=>exact fun h1 h2 h3 h4=>fin _ _ _ _ _ _ hS h1 h2 h3 h4
 | @step g v hgo hk ih=>
  intro β h w O hG hW hn hA;have key:∀ w1,Ry O w w1→∃ g' v' es γ h' w' fs,Mate P L g (reW v (nextT w1) 0)∧stepG P true g (reW v (nextT w1) 0)=.go g' v' es∧stepG P main h w1=.go h' w' fs∧Foot L β γ (reW v (nextT w1) 0) w1 v' w'∧GRel P L K rc γ g' h'∧∀ e∈fs,EvOk γ e:=fun w1 hr=>by
   have hW1:=(hW.ry hn hr).re (nextT w1) 0;have hm:Mate P L g (reW v (nextT w1) 0):=⟨K,rc,β,h,w1,hG,hW1,agree_next v w1⟩;obtain ⟨g',v',es,h1,h2⟩:=hgo _ _ hm;rcases step_rel hP hg hF hG hW1 (agree_next v w1) true main with ⟨o,v2,es2,h3⟩ | ⟨g2,v2,es2,h3,h4⟩
   .rw [h3] at h1;cases h1
   .rw [h3] at h1;cases h1;rcases h4 with h4 | ⟨γ,h',w',fs,h5,h6,h7,h8⟩
    .exact absurd h4 h2
    .exact ⟨_,_,_,γ,h',w',fs,hm,h3,h5,h6,h7,h8⟩
  refine .step hG.sh (fun w1 hr=>?_) fun w1 g2 w2 es2 hr e=>?_
  .obtain ⟨g',v',es,γ,h',w',fs,_,_,h5,h6,h7,h8⟩:=key w1 hr;exact ⟨h',w',fs,h5,h6.gu hn h8⟩
  .obtain ⟨g',v',es,γ,h',w',fs,hm,h1,h5,h6,h7,h8⟩:=key w1 hr;rw [h5] at e;cases e;exact ih _ _ g' v' es hm h1 h7 h6.rel (h6.named hn) (((hA.rely hr).re (nextT w1) 0).foot h6)
end
section
variable {P:Program} {L:Lim} {O0 O:Set_} {β0 β γ:Bl} {v0 v w0 w v' w' w1:World}
def RetS (P:Program) (f:FuncId) (R:Value→World→Prop) (g:Goroutine) (v:World):Prop:=
 ∃ fr x fn,g=G fr [trap P]∧fr.fn=f∧P.funcs[f]?=some fn∧fr.mode=.returning∧fr.defers=[]∧fr.kind=.normal∧(∀ u es,(results fn fr.tmps).runT P u es=(.ok x u,es))∧R x v
theorem seen_nil (P:Program) (fn:FuncId):seen P fn #[]=#[]:=rfl
theorem leave_step {main:Bool} {fr c:Frame} {cs:List Frame} {fn:Func} {x:Value} {of:Option (Array CommCase×CommShape)} (hf:P.funcs[fr.fn]?=some fn) (hm:fr.mode=.returning) (hd:fr.defers=[]) (hk:fr.kind=.normal)
 (hr:∀ u es,(results fn fr.tmps).runT P u es=(.ok x u,es)) (u:World):stepG P main { frame:=fr,callers:=c :: cs,status:=.running,dying:=none,offers:=of } u=.go (G (c.finish x) cs) u:=by
 have hh:=hr u #[];simp only [stepG,hm,unwind,hd,hf,hh,doReturn,hk,GStep.after,seen_nil]
 rfl
theorem CsRel.trap_inv {K:List Item} {rc bs:List Frame} (h:CsRel P L K rc β [trap P] bs):bs=rc:=by
 cases h with
 | base=>rfl
 | cons h he hs=>exact absurd h.da (by simp [trap])
theorem Mate.of {K:List Item} {rc:List Frame} {g h:Goroutine} (hG:GRel P L K rc β g h) (hW:WRel L β v w) (τ:Tp) (d:Nat):Mate P L g (reW v τ d):=
 ⟨K,rc,β,h,reW w τ d,hG,⟨hW.blk,hW.inj,hW.sv,hW.sw⟩,fun j q=>rfl⟩
theorem co_enter (hP:PL P L) (hg:P.globals.size≤L.g) (hF:FnsOK P L) {main:Bool} {Stop:Set_→Goroutine→World→Prop} {f:FuncId} (hf:L.fn f) (hT:∀ fn,P.funcs[f]?=some fn→TmpRes fn) {as1 bs:Array Value} (hv:VsRel L β as1 bs) (hW:WRel L β v w) (hn:Named O β)
 {R:Value→World→Prop} (hR:∀ x v τ d,R x v→R x (reW v τ d)) (hC:∀ τ d,Calls P f as1 (reW v τ d) fun e v'=>∃ x,e=.returned x∧R x v')
 {c:Frame} {cs:List Frame} (next:∀ γ x y v' w' O',R x v'→VRel L γ x y→WRel L γ v' w'→Named O' γ→Acc O β v w O' γ v' w'→Co P main Stop O' (G (c.finish y) cs) w') :
 Co P main Stop O (G (Frame.enter P f bs .normal) (c :: cs)) w:=by
 obtain ⟨fn,code,hfn,hbody,hcode⟩:=hF.body f hf;have hG:GRel P L [] (c :: cs) β (G (Frame.enter P f as1 .normal) [trap P]) (G (Frame.enter P f bs .normal) (c :: cs)):=⟨enter_rel hF hf hv,.base,rfl,rfl,rfl,rfl⟩;have hSre:∀ g v τ d,RetS P f R g v→RetS P f R g (reW v τ d):=fun g v τ d ⟨fr,x,fn,h1,h2,h3,h4,h5,h6,h7,h8⟩=>⟨fr,x,fn,h1,h2,h3,h4,h5,h6,h7,hR _ _ _ _ h8⟩;have hSt:∀ g v,RetS P f R g v→¬ Doomed P g:=fun g v ⟨fr,x,fn,h1,_,_,h4,_⟩ ht=>by
  subst h1;rcases ht.2.2 with ⟨h,_⟩ | ⟨⟨c,h⟩,_⟩
  .cases h
  .have h:fr.mode=_:=h;rw [h4] at h;cases h
 have hrch:∀ τ,Rch P (RetS P f R) (G (Frame.enter P f as1 .normal) [trap P]) (reW v τ 0):=fun τ=>by
  obtain ⟨e,v',fr,⟨x,rfl,hx⟩,hcomes,hfr,hm,hd,hk,fn',hfn',hres⟩:=hC τ 0 [trap P];obtain ⟨n,hn⟩:=hcomes;obtain ⟨x',hx'⟩:=tmpRes_run (P:=P) (hT fn' (hfr ▸ hfn')) fr.tmps;have hxx:x'=x:=by
   have h1:=hx' v' #[];rw [Sem.runT_eq] at h1;have h2:=(Prod.mk.inj h1).1;rw [hres] at h2;cases h2;rfl
  subst hxx;refine rch_of_run hP hg hF hSt (g1:=G fr [trap P]) (v1:=v') ⟨fr,x',fn',rfl,hfr,hfr ▸ hfn',hm,hd,hk,hx',hx⟩ n _ _ (Mate.of hG hW τ 0) hn
 refine Tr.co hP hg hF (S:=RetS P f R) (β0:=β) (v0:=v) (w0:=w) (O0:=O) (K:=[]) (rc:=c :: cs) ?_ (bar hP hg hF hSre hSt hrch) hG hW hn (Acc.refl O β v w);rintro g v2 γ h w2 O2 ⟨fr,x,fn2,rfl,h2,h3,h4,h5,h6,h7,h8⟩ hG2 hW2 hn2 hA2;have hcs:h.callers=c :: cs:=hG2.cs.trap_inv;have hfr:=hG2.fr;have hmode:h.frame.mode=.returning:=by
  have:=hfr.mode;show h.frame.mode=_;have e:(G fr [trap P]).frame.mode=.returning:=h4;rw [e] at this;cases hm:h.frame.mode with
  | returning=>rfl
  | run=>rw [hm] at this;exact (this:False).elim
  | panicking _=>rw [hm] at this;exact (this:False).elim
 have hfn3:P.funcs[h.frame.fn]?=some fn2:=by rw [← hfr.fn];show P.funcs[fr.fn]?=_;rw [h2];exact h3
 obtain ⟨y,hy⟩:=tmpRes_run (P:=P) (hT fn2 h3) h.frame.tmps;have hxy:VRel L γ x y:=by
  have hr:=(rel_results (P:=P) (L:=L) fn2 hfr.tmps).run (hW2.re (nextT w2) 0) (agree_next v2 w2);have e1:(results fn2 (G fr [trap P]).frame.tmps).run P (reW v2 (nextT w2) 0)=.ok x (reW v2 (nextT w2) 0):=by
   have:=h7 (reW v2 (nextT w2) 0) #[];rw [Sem.runT_eq] at this;exact (Prod.mk.inj this).1
  have e2:(results fn2 h.frame.tmps).run P w2=.ok y w2:=by
   have:=hy w2 #[];rw [Sem.runT_eq] at this;exact (Prod.mk.inj this).1
  rw [e1] at hr;obtain ⟨δ,y2,w3,k1,k2,k3,k4⟩:=hr;rw [e2] at k1;cases k1
  -- the names: nothing new
  have:∀ {x y:Value},VRel L δ x y→VRel L γ x y:=fun {x y} hxy=>by
   refine VRel.mono (fun k z e=>?_) hxy;rcases k2.new k z e with e | ⟨_,e2⟩
   .exact e
   .obtain ⟨o,p,h1,_⟩:=k2.rel.blk k z e;have:=lt_of_heap h1;omega
  exact this k3
 obtain ⟨hfrm,hcall,hst,hdy,hof⟩:=h;obtain rfl:hst=.running:=hG2.sh;obtain rfl:hdy=none:=hG2.dh;simp only at hcs;subst hcs;exact Co.one rfl (leave_step hfn3 hmode hfr.db hfr.kb hy) (next γ x y v2 w2 O2 h8 hxy hW2 hn2 hA2)
end
section
variable {P:Program} {L:Lim} {O0 O:Set_} {β0 β γ:Bl} {v0 v w0 w v' w' w1:World}
def PieceS (P:Program) (b:Frame) (Q:Exit→Act→World→Prop) (g:Goroutine) (v:World):Prop:=
 (∃ a,g=G (b.at a [mark_]) [trap P]∧Q .normal a v)∨∃ a todo,g=G { b.at a todo with mode:=.returning } [trap P]∧Q .ret a v
theorem GRel.shape {K:List Item} {rc:List Frame} {g h:Goroutine} {fr:Frame} (hG:GRel P L K rc β g h) (hg:g=G fr [trap P]) :
 ∃ todo m tmps,h.frame={ fn:=fr.fn,tmps:=tmps,todo:=todo,defers:=[],mode:=m,kind:=.normal }∧h.callers=rc∧TRel P L K fr.todo todo∧ModeRel fr.mode m∧VsRel L β fr.tmps tmps∧h.status=.running∧h.dying=none:=by
 subst hg;have hcs:=hG.cs.trap_inv;have hf:=hG.fr;obtain ⟨⟨fn,tm,td,df,md,kd,ro⟩,cs,st,dy,of⟩:=h;have h1:=hf.fn;have h2:=hf.todo;have h3:=hf.tmps;have h4:=hf.db;have h5:=hf.kb;have h6:=hf.rb;have h7:=hf.mode;have h8:=hG.sh;have h9:=hG.dh;simp only [G] at h1 h2 h3 h4 h5 h6 h7 h8 h9 hcs;subst h4;subst h5;subst h6;exact ⟨td,md,tm,by rw [h1],hcs,h2,h7,h3,h8,h9⟩
theorem co_offers {main:Bool} {Stop:Set_→Goroutine→World→Prop} (hS:∀ O g w of,Stop O g w→Stop O { g with offers:=of } w) {g:Goroutine} {O:Set_} {w:World} (h:Co P main Stop O g w) (of:Option (Array CommCase×CommShape)):Co P main Stop O { g with offers:=of } w:=by
 cases h with
 | stop h=>exact .stop fun w1 hr=>hS _ _ _ _ (h w1 hr)
 | step hs h1 h2=>exact .step hs (fun w1 hr=>h1 w1 hr) fun w1 g' w' es hr e=>h2 w1 g' w' es hr e
theorem co_code (hP:PL P L) (hg:P.globals.size≤L.g) (hF:FnsOK P L) {main:Bool} {Stop:Set_→Goroutine→World→Prop} (hSo:∀ O g w of,Stop O g w→Stop O { g with offers:=of } w) {c:Code} (hc:CodeOK P L c) {b:Frame} (hb:b.kind=.normal) (hbf:∃ f,P.funcs[b.fn]?=some f)
 {K:List Item} {rc:List Frame} {ag a:Act} (hd:ag.defers=[]) (hd':a.defers=[]) (hv:VsRel L β ag.tmps a.tmps) (hW:WRel L β v w) (hn:Named O β) {Q:Exit→Act→World→Prop} (hQ:∀ e a v τ d,Q e a v→Q e a (reW v τ d))
 (hQd:∀ e a v,Q e a v→e=.normal∨e=.ret) (hwp:∀ τ d,c.wp P Q ag (reW v τ d))
 (next:∀ γ ag' a' v' w' O',Q .normal ag' v'→ag'.defers=[]→a'.defers=[]→VsRel L γ ag'.tmps a'.tmps→WRel L γ v' w'→Named O' γ→Acc O β v w O' γ v' w'→Co P main Stop O' (G (b.at a' K) rc) w')
 (ret:∀ γ ag' a' v' w' O' todo,Q .ret ag' v'→ag'.defers=[]→a'.defers=[]→VsRel L γ ag'.tmps a'.tmps→WRel L γ v' w'→Named O' γ→Acc O β v w O' γ v' w'→Co P main Stop O' (G { b.at a' todo with mode:=.returning } rc) w') :
 Co P main Stop O (G (b.at a (.code c :: K)) rc) w:=by
 have hG:GRel P L K rc β (G (b.at ag (.code c :: [mark_])) [trap P]) (G (b.at a (.code c :: K)) rc):=
  ⟨⟨rfl,.mark (k:=[.code c]) (fun i hi=>by simp at hi;subst hi;exact hc),hv,hd,hd',trivial,hb,hb,rfl,rfl,hbf⟩,.base,rfl,rfl,rfl,rfl⟩
 have hSre:∀ g v τ d,PieceS P b Q g v→PieceS P b Q g (reW v τ d):=fun g v τ d h=>h.imp (fun ⟨a,h1,h2⟩=>⟨a,h1,hQ _ _ _ _ _ h2⟩) fun ⟨a,todo,h1,h2⟩=>⟨a,todo,h1,hQ _ _ _ _ _ h2⟩;have hSt:∀ g v,PieceS P b Q g v→¬ Doomed P g:=fun g v h ht=>by
  rcases h with ⟨a,h1,_⟩ | ⟨a,todo,h1,_⟩<;>subst h1<;>rcases ht.2.2 with ⟨h,_⟩ | ⟨⟨c,h⟩,_⟩<;>cases h
 have hrch:∀ τ,Rch P (PieceS P b Q) (G (b.at ag (.code c :: [mark_])) [trap P]) (reW v τ 0):=fun τ=>by
  obtain ⟨e,a',v',hq,harr⟩:=hwp τ 0 b [mark_] [trap P];rcases hQd _ _ _ hq with rfl | rfl
  .obtain ⟨n,hn⟩:=harr;exact rch_of_run hP hg hF hSt (g1:=G (b.at a' [mark_]) [trap P]) (v1:=v') (.inl ⟨a',rfl,hq⟩) n _ _ (Mate.of hG hW τ 0) hn
  .obtain ⟨todo,n,hn⟩:=harr;exact rch_of_run hP hg hF hSt (g1:=G { b.at a' todo with mode:=.returning } [trap P]) (v1:=v') (.inr ⟨a',todo,rfl,hq⟩) n _ _ (Mate.of hG hW τ 0) hn
 refine Tr.co hP hg hF (S:=PieceS P b Q) (β0:=β) (v0:=v) (w0:=w) (O0:=O) (K:=K) (rc:=rc) ?_ (bar hP hg hF hSre hSt hrch) hG hW hn (Acc.refl O β v w);rintro g v2 γ h w2 O2 hS hG2 hW2 hn2 hA2;rcases hS with ⟨a2,hg2,hq⟩ | ⟨a2,td2,hg2,hq⟩
 .obtain ⟨todo,m,tmps,h1,h2,h3,h4,h5,h6,h7⟩:=hG2.shape hg2;have hm:m=.run:=by
   cases m with
   | run=>rfl
   | _=>exact (h4:False).elim
  subst hm;have htd:todo=K:=by
   rcases h3.inv with ⟨e,_⟩ | ⟨_,e⟩ | ⟨i,k,l,e,_,hi,_⟩ | ⟨_,_,_,_,e,_⟩
   .cases e
   .exact e
   .cases e;exact (hi:False).elim
   .cases e
  subst htd;have hh:h={ G (b.at ⟨tmps,[]⟩ todo) rc with offers:=h.offers }:=by
   obtain ⟨hf,hc,hs,hdy,ho⟩:=h;simp only at h1 h2 h6 h7;subst h1;subst h2;subst h6;subst h7;simp [G,Frame.at,hb]
  rw [hh];exact co_offers hSo (next γ a2 ⟨tmps,[]⟩ v2 w2 O2 hq (by have:=hG2.fr.da;rw [hg2] at this;exact this) rfl h5 hW2 hn2 hA2) _
 .obtain ⟨todo,m,tmps,h1,h2,h3,h4,h5,h6,h7⟩:=hG2.shape hg2;have hm:m=.returning:=by
   cases m with
   | returning=>rfl
   | _=>exact (h4:False).elim
  subst hm;have hh:h={ G { b.at ⟨tmps,[]⟩ todo with mode:=.returning } rc with offers:=h.offers }:=by
   obtain ⟨hf,hc,hs,hdy,ho⟩:=h;simp only at h1 h2 h6 h7;subst h1;subst h2;subst h6;subst h7;simp [G,Frame.at,hb]
  rw [hh];exact co_offers hSo (ret γ a2 ⟨tmps,[]⟩ v2 w2 O2 todo hq (by have:=hG2.fr.da;rw [hg2] at this;exact this) rfl h5 hW2 hn2 hA2) _
def wpS (P:Program):List Code→(Exit→Act→World→Prop)→Act→World→Prop
 | [],Q=>fun a w=>Q .normal a w
 | c :: cs,Q=>fun a w=>c.wp P (Exit.then (wpS P cs Q) Q) a w
theorem wpS_run {b : Frame} {Q : Exit → Act → World → Prop} (hQd : ∀ e a v, Q e a v → e = .normal ∨ e = .ret) {cs' : List Frame} : ∀ (cs : List Code) {a : Act} {w : World}, wpS P cs Q a w → ∃ e a' w', Q e a' w' ∧ (e = .normal ∧ Steps P (lone (b.at a [.code (spineC (.refuse "") cs)]) cs' w) (lone (b.at a' [mark_]) cs' w') ∨
 e = .ret ∧ ∃ todo, Steps P (lone (b.at a [.code (spineC (.refuse "") cs)]) cs' w) (lone { b.at a' todo with mode := .returning } cs' w'))
 | [],a,w,h=>⟨.normal,a,w,h,.inl ⟨rfl,.refl _ _⟩⟩
 | c :: cs,a,w,h=>by
  obtain ⟨e, a1, w1, hq, harr⟩ := h b [.code (spineC (.refuse "") cs)] cs';cases e with
  | normal=>
   obtain ⟨e2,a2,w2,hq2,h2⟩:=wpS_run hQd cs hq
   have h0 : Steps P (lone (b.at a [.code (spineC (.refuse "") (c :: cs))]) cs' w) (lone (b.at a1 [.code (spineC (.refuse "") cs)]) cs' w1) := .head step_seq harr;refine ⟨e2,a2,w2,hq2,?_⟩;rcases h2 with ⟨e,h2⟩ | ⟨e,td,h2⟩
   .exact .inl ⟨e,h0.trans h2⟩
   .exact .inr ⟨e,td,h0.trans h2⟩
  | ret=>
   obtain ⟨td,h2⟩:=harr;exact ⟨.ret,a1,w1,hq,.inr ⟨rfl,td,.head step_seq h2⟩⟩
  | _=>rcases hQd _ _ _ hq with h | h<;>cases h
theorem co_codes (hP:PL P L) (hg:P.globals.size≤L.g) (hF:FnsOK P L) {main:Bool} {Stop:Set_→Goroutine→World→Prop} (hSo:∀ O g w of,Stop O g w→Stop O { g with offers:=of } w) {pcs:List Code} {tail:Code} (hc:∀ c∈pcs,CodeOK P L c) {b:Frame} (hb:b.kind=.normal) (hbf:∃ f,P.funcs[b.fn]?=some f)
 {K:List Item} {rc:List Frame} {ag a:Act} (hd:ag.defers=[]) (hd':a.defers=[]) (hv:VsRel L β ag.tmps a.tmps) (hW:WRel L β v w) (hn:Named O β) {Q:Exit→Act→World→Prop} (hQ:∀ e a v τ d,Q e a v→Q e a (reW v τ d))
 (hQd:∀ e a v,Q e a v→e=.normal∨e=.ret) (hwp:∀ τ d,wpS P pcs Q ag (reW v τ d))
 (next:∀ γ ag' a' v' w' O',Q .normal ag' v'→ag'.defers=[]→a'.defers=[]→VsRel L γ ag'.tmps a'.tmps→WRel L γ v' w'→Named O' γ→Acc O β v w O' γ v' w'→Co P main Stop O' (G (b.at a' (.code tail :: K)) rc) w')
 (ret:∀ γ ag' a' v' w' O' todo,Q .ret ag' v'→ag'.defers=[]→a'.defers=[]→VsRel L γ ag'.tmps a'.tmps→WRel L γ v' w'→Named O' γ→Acc O β v w O' γ v' w'→Co P main Stop O' (G { b.at a' todo with mode:=.returning } rc) w') :
 Co P main Stop O (G (b.at a (.code (spineC tail pcs) :: K)) rc) w:=by
 have hG : GRel P L (.code tail :: K) rc β (G (b.at ag [.code (spineC (.refuse "") pcs)]) [trap P]) (G (b.at a (.code (spineC tail pcs) :: K)) rc) :=
  ⟨⟨rfl,.spine (k:=[]) rfl (by simp) hc,hv,hd,hd',trivial,hb,hb,rfl,rfl,hbf⟩,.base,rfl,rfl,rfl,rfl⟩
 have hSre:∀ g v τ d,PieceS P b Q g v→PieceS P b Q g (reW v τ d):=fun g v τ d h=>h.imp (fun ⟨a,h1,h2⟩=>⟨a,h1,hQ _ _ _ _ _ h2⟩) fun ⟨a,todo,h1,h2⟩=>⟨a,todo,h1,hQ _ _ _ _ _ h2⟩;have hSt:∀ g v,PieceS P b Q g v→¬ Doomed P g:=fun g v h ht=>by
  rcases h with ⟨a,h1,_⟩ | ⟨a,todo,h1,_⟩<;>subst h1<;>rcases ht.2.2 with ⟨h,_⟩ | ⟨⟨c,h⟩,_⟩<;>cases h
 have hrch : ∀ τ, Rch P (PieceS P b Q) (G (b.at ag [.code (spineC (.refuse "") pcs)]) [trap P]) (reW v τ 0) := fun τ => by
  obtain ⟨e,a',v',hq,harr⟩:=wpS_run (b:=b) hQd (cs':=[trap P]) pcs (hwp τ 0);rcases harr with ⟨rfl,n,hn⟩ | ⟨rfl,todo,n,hn⟩
  .skip
   exact rch_of_run hP hg hF hSt (g1:=G (b.at a' [mark_]) [trap P]) (v1:=v') (.inl ⟨a',rfl,hq⟩) n _ _ (Mate.of hG hW τ 0) hn
  .skip
   exact rch_of_run hP hg hF hSt (g1:=G { b.at a' todo with mode:=.returning } [trap P]) (v1:=v') (.inr ⟨a',todo,rfl,hq⟩) n _ _ (Mate.of hG hW τ 0) hn
 refine Tr.co hP hg hF (S:=PieceS P b Q) (β0:=β) (v0:=v) (w0:=w) (O0:=O) (K:=.code tail :: K) (rc:=rc) ?_ (bar hP hg hF hSre hSt hrch) hG hW hn (Acc.refl O β v w);rintro g v2 γ h w2 O2 hS hG2 hW2 hn2 hA2;rcases hS with ⟨a2,hg2,hq⟩ | ⟨a2,td2,hg2,hq⟩
 .obtain ⟨todo,m,tmps,h1,h2,h3,h4,h5,h6,h7⟩:=hG2.shape hg2;have hm:m=.run:=by
   cases m with
   | run=>rfl
   | _=>exact (h4:False).elim
  subst hm;have htd:todo=.code tail :: K:=by
   rcases h3.inv with ⟨e,_⟩ | ⟨_,e⟩ | ⟨i,k,l,e,_,hi,_⟩ | ⟨_,_,_,_,e,_⟩
   .cases e
   .exact e
   .cases e;exact (hi:False).elim
   .cases e
  subst htd;have hh:h={ G (b.at ⟨tmps,[]⟩ (.code tail :: K)) rc with offers:=h.offers }:=by
   obtain ⟨hf,hc,hs,hdy,ho⟩:=h;simp only at h1 h2 h6 h7;subst h1;subst h2;subst h6;subst h7;simp [G,Frame.at,hb]
  rw [hh];exact co_offers hSo (next γ a2 ⟨tmps,[]⟩ v2 w2 O2 hq (by have:=hG2.fr.da;rw [hg2] at this;exact this) rfl h5 hW2 hn2 hA2) _
 .obtain ⟨todo,m,tmps,h1,h2,h3,h4,h5,h6,h7⟩:=hG2.shape hg2;have hm:m=.returning:=by
   cases m with
   | returning=>rfl
   | _=>exact (h4:False).elim
  subst hm;have hh:h={ G { b.at ⟨tmps,[]⟩ todo with mode:=.returning } rc with offers:=h.offers }:=by
   obtain ⟨hf,hc,hs,hdy,ho⟩:=h;simp only at h1 h2 h6 h7;subst h1;subst h2;subst h6;subst h7;simp [G,Frame.at,hb]
  rw [hh];exact co_offers hSo (ret γ a2 ⟨tmps,[]⟩ v2 w2 O2 todo hq (by have:=hG2.fr.da;rw [hg2] at this;exact this) rfl h5 hW2 hn2 hA2) _
end
def EvIn (O:Set_) (N N':Nat) (e:Event):Prop:=e.loc=.mark .noRoom∨∃ x,AtB e.loc x∧(O x∨(N≤x∧x < N'))
section
variable {t u:Trace} {g s N N' c:Nat} {O OA OB C:Set_}
theorem AtB.uniq {l:Loc} {x y:Nat} (h:AtB l x) (k:AtB l y):x=y:=by
 rcases h with ⟨a,h1,h2⟩ | h1<;>rcases k with ⟨b,k1,k2⟩ | k1
 .rw [h1] at k1;cases k1;rw [← h2,← k2]
 .rw [h1] at k1;cases k1
 .rw [h1] at k1;cases k1
 .rw [h1] at k1;cases k1;rfl
theorem evIn_touch {e:Event} (h:EvIn O N N' e) {b:Touch} (hb:(MemAct.ofEvent e).touch?=some b):b.loc=e.loc∧∃ x,AtB b.loc x∧(O x∨(N≤x∧x < N')):=by
 have hm:∀ m,e.loc=.mark m→Neutral m:=fun m hm=>by
  rcases h with h | ⟨x,h1,_⟩
  .rw [h] at hm;cases hm;rfl
  .rcases h1 with ⟨a,h2,_⟩ | h2<;>rw [h2] at hm<;>cases hm
 obtain ⟨h1,_⟩:=ofEvent_touch hm hb;refine ⟨h1,?_⟩;rcases h with h | h
 .exfalso
  have:MemAct.ofEvent e=.mark .noRoom:=by
   obtain ⟨loc,wr,sy⟩:=e;simp only at h;subst h;cases wr<;>cases sy<;>rfl
  rw [this] at hb;cases hb
 .rw [h1];exact h
theorem evIn_wordless {es:Array Event} (h:∀ e∈es,EvIn O N N' e) (g:Nat) (fn:FuncId) (pos:String):Wordless (MemOp.ofEvents g fn pos es):=by
 rw [ofEvents_eq];intro op hop;obtain ⟨e,he,rfl⟩:=Array.mem_map.1 hop;refine ofEvent_noMark fun m hm=>?_;rcases h e he with h | ⟨x,h1,_⟩
 .rw [h] at hm;cases hm;rfl
 .rcases h1 with ⟨a,h2,_⟩ | h2<;>rw [h2] at hm<;>cases hm
theorem mem_evs {g:Nat} {fn:FuncId} {pos:String} {es:Array Event} {op:MemOp} (h:op∈MemOp.ofEvents g fn pos es):∃ e∈es,op={ g,fn,pos,act:=.ofEvent e }:=by
 rw [ofEvents_eq] at h;obtain ⟨e,he,rfl⟩:=Array.mem_map.1 h;exact ⟨e,he,rfl⟩
structure TI (t:Trace) (Own:Nat→Set_) (Kn:Nat→Prop) (C:Set_) (N:Nat):Prop where
 clean:∀ said,¬ Race said t
 wl:Wordless t
 kn:∀ i a,touchAt t i=some a→a.loc.isMemory=true→Kn i
 own:∀ g i a x,touchAt t i=some a→AtB a.loc x→Own g x→Knows t g i
 low:∀ i a x,touchAt t i=some a→AtB a.loc x→x < N
 ch:∀ i a x,touchAt t i=some a→AtB a.loc x→¬ C x
theorem touch_app {t u:Trace} {i:Nat} {a:Touch} (h:touchAt (t++u) i=some a):(i < t.size∧touchAt t i=some a)∨(t.size≤i∧∃ op∈u,(t++u)[i]?=some op∧op.act.touch?=some a):=by
 obtain ⟨x,hx,hxa⟩:=touch_of h;rcases getElem?_append_cases hx with ⟨hi,hx'⟩ | ⟨hi,hxu⟩
 .exact .inl ⟨hi,by rw [touchAt_of hx'];exact hxa⟩
 .exact .inr ⟨hi,x,hxu,hx,hxa⟩
theorem TI.step {Own:Nat→Set_} {Kn Kn':Nat→Prop} (h:TI t Own Kn C N) (hdis:∀ g' x,g'≠g→Own g x→¬ Own g' x) (hlow:∀ g x,Own g x→x < N) (hc:∀ x,C x→x < N) (hcO:∀ x,C x→¬ Own g x) (hN:N≤N') {fn:FuncId} {pos:String} {es:Array Event} (he:∀ e∈es,EvIn (Own g) N N' e)
 {Own':Nat→Set_} (hO:∀ x,Own' g x→Own g x∨(N≤x∧x < N')) (hO':∀ g',g'≠g→∀ x,Own' g' x→Own g' x)
 (hk:∀ i,Kn i→Kn' i) (hk':∀ i,Knows (t++MemOp.ofEvents g fn pos es) g i→Kn' i):TI (t++MemOp.ofEvents g fn pos es) Own' Kn' C N':=by
 have hnew:∀ op∈MemOp.ofEvents g fn pos es,∀ b,op.act.touch?=some b→∃ x,AtB b.loc x∧(Own g x∨(N≤x∧x < N')):=fun op hop b hb=>by
  obtain ⟨e,he',rfl⟩:=mem_evs hop;exact (evIn_touch (he e he') hb).2
 have hg:∀ op∈MemOp.ofEvents g fn pos es,op.g=g:=fun op hop=>by
  obtain ⟨e,_,rfl⟩:=mem_evs hop;rfl
 refine ⟨fun said=>noRace_append (h.clean said) hg fun i a ha op hop b hb hcf=>?_,h.wl.append (evIn_wordless he _ _ _),fun i a ha hm=>?_,fun g' i a x ha hx ho=>?_,fun i a x ha hx=>?_,fun i a x ha hx hC=>?_⟩
 .obtain ⟨x,hx,ho⟩:=hnew op hop b hb;have hax:AtB a.loc x:=hcf.1 ▸ hx;rcases ho with ho | ho
  .exact h.own g i a x ha hax ho
  .have:=h.low i a x ha hax;omega
 .rcases touch_app ha with ⟨_,h1⟩ | ⟨_,op,hop,hi,h1⟩
  .exact hk i (h.kn i a h1 hm)
  .exact hk' i (by have:=knows_own hi;rwa [hg op hop] at this)
 .rcases touch_app ha with ⟨_,h1⟩ | ⟨_,op,hop,hi,h1⟩
  .by_cases e:g'=g
   .subst e;rcases hO x ho with ho | ho
    .exact (h.own g' i a x h1 hx ho).app _
    .have:=h.low i a x h1 hx;omega
   .exact (h.own g' i a x h1 hx (hO' g' e x ho)).app _
  .obtain ⟨y,hy,hyo⟩:=hnew op hop a h1;have hxy:=hy.uniq hx;subst hxy;by_cases e:g'=g
   .subst e;have:=knows_own hi
    rwa [hg op hop] at this
   .exfalso
    have h2:=hO' g' e y ho;rcases hyo with h3 | h3
    .exact hdis g' y e h3 h2
    .have:=hlow g' y h2;omega
 .rcases touch_app ha with ⟨_,h1⟩ | ⟨_,op,hop,hi,h1⟩
  .exact Nat.lt_of_lt_of_le (h.low i a x h1 hx) hN
  .obtain ⟨y,hy,hyo⟩:=hnew op hop a h1;have hxy:=hy.uniq hx;subst hxy;rcases hyo with h3 | h3
   .exact Nat.lt_of_lt_of_le (hlow g y h3) hN
   .exact h3.2
 .rcases touch_app ha with ⟨_,h1⟩ | ⟨_,op,hop,hi,h1⟩
  .exact h.ch i a x h1 hx hC
  .obtain ⟨y,hy,hyo⟩:=hnew op hop a h1;have hxy:=hy.uniq hx;subst hxy;rcases hyo with h3 | h3
   .exact hcO _ hC h3
   .have:=hc _ hC;omega
theorem noRace_mute {said:Bool} {t:Trace} (h:¬ Race said t):∀ (l:List MemOp),(∀ op∈l,op.act.touch?=none)→¬ Race said (t++l.toArray):=by
 intro l
 induction l generalizing t with
 | nil=>intro _;simpa using h
 | cons x l ih=>
  intro hl;have e:t++(x :: l).toArray=(t++#[x])++l.toArray:=by apply Array.ext';simp
  rw [e];refine ih (noRace_append (g:=x.g) h (fun op hop=>by simp at hop;rw [hop]) fun i a ha op hop b hb _=>?_) fun op hop=>hl op (List.mem_cons_of_mem _ hop);simp at hop;subst hop;rw [hl _ List.mem_cons_self] at hb;cases hb
theorem TI.mute {Own:Nat→Set_} {Kn Kn':Nat→Prop} (h:TI t Own Kn C N) (hu:∀ op∈u,op.act.touch?=none) (hw:Wordless u) (hk:∀ i,Kn i→Kn' i):TI (t++u) Own Kn' C N:=by
 have old:∀ {i a},touchAt (t++u) i=some a→touchAt t i=some a:=fun ha=>by
  rcases touch_app ha with ⟨_,h1⟩ | ⟨_,op,hop,hi,h1⟩
  .exact h1
  .rw [hu op hop] at h1;cases h1
 refine ⟨fun said=>?_,h.wl.append hw,fun i a ha hm=>hk i (h.kn i a (old ha) hm),fun g' i a x ha hx ho=>(h.own g' i a x (old ha) hx ho).app _,fun i a x ha hx=>h.low i a x (old ha) hx,fun i a x ha=>h.ch i a x (old ha)⟩;have:=noRace_mute (h.clean said) u.toList fun op hop=>hu op (by simpa using hop)
 simpa using this
theorem TI.own' {Own Own':Nat→Set_} {Kn Kn':Nat→Prop} (h:TI t Own Kn C N) (ho:∀ g i a x,touchAt t i=some a→AtB a.loc x→Own' g x→Knows t g i) (hk:∀ i,Kn i→Kn' i):TI t Own' Kn' C N:=
 ⟨h.clean,h.wl,fun i a ha hm=>hk i (h.kn i a ha hm),ho,h.low,h.ch⟩
theorem knows_pass {t:Trace} {s i k c:Nat} {x y:MemOp} {u:Trace} (hw:Wordless (t++u)) (hk:Knows t s i) {p q:Nat} (hp:t.size≤p) (hx:(t++u)[p]?=some x) (hxg:x.g=s) (hxa:x.act=.send c k) (hy:(t++u)[q]?=some y) (hya:y.act=.recvDone c k):Knows (t++u) y.g i:=by
 have h1:=hk.hb_new hp hx hxg;have h2:HappensBefore (t++u) p q:=.single (.inr ⟨.handOver (c:=c) (k:=k) (by rw [act?_of hx,hxa]) (by rw [act?_of hy,hya]),hw.heard hx,hw.heard hy⟩);exact ⟨q,y,hy,rfl,.inr (h1.trans h2)⟩
theorem knows_closed {t:Trace} {i c pc q:Nat} {y:MemOp} (hw:Wordless t) (hb:Before t i pc) (hc:t.act? pc=some (.close c)) (hy:t[q]?=some y) (hya:y.act=.recvClosed c):Knows t y.g i:=by
 obtain ⟨x,hx,hxa⟩:=Option.map_eq_some_iff.1 hc;have h2:HappensBefore t pc q:=.single (.inr ⟨.closed (c:=c) hc (by rw [act?_of hy,hya]),hw.heard hx,hw.heard hy⟩);exact ⟨q,y,hy,rfl,.inr (hb.hb h2)⟩
end

