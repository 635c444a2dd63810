/- -/
import Derived.Test.YtiblbnkpjmmjaaaGreatQ06
import Derived.Conc.CrowdComm
import Derived.Conc.CrowdBase
set_option maxRecDepth 100000
set_option maxHeartbeats 16000000
set_option linter.all false
namespace Go.Proofs.YtiblbnkpjmmjaaaGreat
open Go.Conc
open Go.ConcN (sumTo upd sumTo_upd upd_ne upd_same)
section
variable {P:Program} {c s:Nat} {z:Value} {ι:Type} {V:ι→Value→Nat→World→Prop} {Fin:Set_→Goroutine→World→Prop}
def RecvAt (P:Program) (c:Nat) (z:Value) (g:Goroutine) (w:World):Prop:=g.status=.running∧stepG P true g w=.comm (core g) #[rcase c z] true (.recv true) w #[]
def MStop (P:Program) (c:Nat) (z:Value) (V:ι→Value→Nat→World→Prop) (Fin:Set_→Goroutine→World→Prop):List ι→Set_→Goroutine→World→Prop
 | []=>fun O g w=>RecvAt P c z g w∧∀ w2,Ry O w w2→Fin O (Go.Conc.served (core g) (.tuple #[z,.bool false])) w2
 | r :: rs=>fun O g w=>RecvAt P c z g w∧∀ w2 x b,Ry O w w2→¬ O b→V r x b w2→Co P true (MStop P c z V Fin rs) (fun y=>O y∨y=b) (Go.Conc.served (core g) (.tuple #[x,.bool true])) w2
def SStop (P:Program) (c:Nat) (V:ι→Value→Nat→World→Prop):List ι→Set_→Goroutine→World→Prop
 | []=>fun O g w=>g.status=.running∧mayWake P g=true∧∃ g2 n,(∀ w1 s r tm,w1.heap[c]?=some (.chan 0 #[] false s r tm)→stepG P false g w1=.go g2 (w1.shut c s r tm) #[⟨.obj c,false,true⟩,⟨.obj c,true,true⟩])∧QuitsIn P n g2
 | r :: rs=>fun O g w=>g.status=.running∧∃ g2 zz x b,O b∧V r x b w∧stepG P false g w=.comm g2 #[scase c x zz] true .send w #[] ∧
  ∀ w2,Ry (fun y=>O y∧y≠b) w w2→Co P false (SStop P c V rs) (fun y=>O y∧y≠b) (Go.Conc.served g2 undef) w2
theorem MStop.at_ {rs:List ι} {O:Set_} {g:Goroutine} {w:World} (h:MStop P c z V Fin rs O g w):RecvAt P c z g w:=by cases rs<;>exact h.1
theorem SStop.run {rs:List ι} {O:Set_} {g:Goroutine} {w:World} (h:SStop P c V rs O g w):g.status=.running:=by cases rs<;>exact h.1
def Calm (P:Program) (a:Goroutine) (w:World):Prop:=∀ g g',woken P g g' w a=a
theorem calm_run {a:Goroutine} {w:World} (h:a.status=.running):Calm P a w:=fun g g'=>woken_running h
theorem Co.run {main:Bool} {Stop:Set_→Goroutine→World→Prop} (hS:∀ O g w,Stop O g w→g.status=.running) {O:Set_} {g:Goroutine} {w:World} (h:Co P main Stop O g w):g.status=.running:=by
 cases h with
 | stop h=>exact hS _ _ _ (h w (Ry.refl _ _))
 | step hs _ _=>exact hs
structure Cr (P:Program) (gs:Array Goroutine) (s:Nat) (a b:Goroutine) (q:Nat→Nat):Prop where
 s0:0 < s
 ga:gs[0]?=some a
 gb:gs[s]?=some b
 el:∀ i g,0 < i→i≠s→gs[i]?=some g→QuitsIn P (q i) g
section
variable {gs:Array Goroutine} {a b a' b' g g':Goroutine} {q:Nat→Nat} {w w':World}
theorem get_set (gs:Array Goroutine) (f:Goroutine→Goroutine) (i j:Nat) (x:Goroutine) (h:j≠i):((gs.map f).setIfInBounds i x)[j]?=(gs[j]?).map f:=by
 rw [Array.getElem?_setIfInBounds_ne (fun e=>h e.symm),Array.getElem?_map]
theorem get_set_same (gs:Array Goroutine) (f:Goroutine→Goroutine) (i:Nat) (x y:Goroutine) (h:gs[i]?=some y):((gs.map f).setIfInBounds i x)[i]?=some x:=by
 have hi:=(Array.getElem?_eq_some_iff.1 h).1;simp [hi]
theorem Cr.step0 (h:Cr P gs s a b q) (hb:Calm P b w'):Cr P ((gs.map (woken P g g' w')).setIfInBounds 0 a') s a' b q:=by
 have hs:=h.s0;refine ⟨h.s0,get_set_same _ _ _ _ _ h.ga,by rw [get_set _ _ _ _ _ (by omega),h.gb,Option.map_some,hb],fun i x hi hne hx=>?_⟩;rw [get_set _ _ _ _ _ (by omega)] at hx;obtain ⟨y,hy,rfl⟩:=Option.map_eq_some_iff.1 hx;have:=h.el i y hi hne hy
 rwa [woken_quits this]
theorem Cr.stepS (h:Cr P gs s a b q) (ha:Calm P a w'):Cr P ((gs.map (woken P g g' w')).setIfInBounds s b') s a b' q:=by
 have hs:=h.s0;refine ⟨h.s0,by rw [get_set _ _ _ _ _ (by omega),h.ga,Option.map_some,ha],get_set_same _ _ _ _ _ h.gb,fun i x hi hne hx=>?_⟩;rw [get_set _ _ _ _ _ (by omega)] at hx;obtain ⟨y,hy,rfl⟩:=Option.map_eq_some_iff.1 hx;have:=h.el i y hi hne hy
 rwa [woken_quits this]
theorem Cr.stepI (h:Cr P gs s a b q) (ha:Calm P a w') (hb:Calm P b w') {i k:Nat} (hi:0 < i) (his:i≠s) (hx:gs[i]?=some g) (hq:QuitsIn P k g'):Cr P ((gs.map (woken P g g' w')).setIfInBounds i g') s a b (upd q i k):=by
 refine ⟨h.s0,by rw [get_set _ _ _ _ _ (by omega),h.ga,Option.map_some,ha],by rw [get_set _ _ _ _ _ (by omega),h.gb,Option.map_some,hb],fun j x hj hne hx'=>?_⟩;by_cases hji:j=i
 .subst hji;rw [get_set_same _ _ _ _ _ hx] at hx';cases hx';rw [upd_same];exact hq
 .rw [get_set _ _ _ _ _ hji] at hx';obtain ⟨y,hy,rfl⟩:=Option.map_eq_some_iff.1 hx';have:=h.el j y hj hne hy;rw [upd_ne _ _ hji]
  rwa [woken_quits this]
theorem Cr.set0 (h:Cr P gs s a b q):Cr P (gs.setIfInBounds 0 a') s a' b q:=by
 have hs:=h.s0;have hi:=(Array.getElem?_eq_some_iff.1 h.ga).1;refine ⟨h.s0,by simp [hi],by rw [Array.getElem?_setIfInBounds_ne (by omega)];exact h.gb,fun i x hi hne hx=>?_⟩;rw [Array.getElem?_setIfInBounds_ne (by omega)] at hx;exact h.el i x hi hne hx
theorem Cr.setS (h:Cr P gs s a b q):Cr P (gs.setIfInBounds s b') s a b' q:=by
 have hs:=h.s0;have hi:=(Array.getElem?_eq_some_iff.1 h.gb).1;refine ⟨h.s0,by rw [Array.getElem?_setIfInBounds_ne (by omega)];exact h.ga,by simp [hi],fun i x hi hne hx=>?_⟩;rw [Array.getElem?_setIfInBounds_ne (by omega)] at hx;exact h.el i x hi hne hx
theorem sum_lt {n i k:Nat} (hi:i < n) (hq:q i=k+1):sumTo n (upd q i k) < sumTo n q:=by
 have h:sumTo n (upd q i k)+q i=sumTo n q+k:=sumTo_upd q k id hi;rw [hq] at h;omega
end
def own1 (O:Set_):Nat→Set_:=fun g x=>g=0∧O x
def own2 (s:Nat) (OA OB:Set_):Nat→Set_:=fun g x=>(g=0∧OA x)∨(g=s∧OB x)
def noSet:Set_:=fun _=>False
def Ends (P:Program) (Fin:Set_→Goroutine→World→Prop) (n:Nat) (gs:Array Goroutine) (w:World) (sl:Option (Nat×Nat)) (t:Trace):Prop:=
 ∃ (N:Nat) (gs':Array Goroutine) (w':World) (sl':Option (Nat×Nat)) (t':Trace) (q':Nat→Nat) (a':Goroutine) (O':Set_),runNT P N (crowd gs w sl) t=(.next (crowd gs' w' sl'),t')∧gs'.size=n∧gs'[0]?=some a'∧Fin O' a' w'∧(∀ i g,0 < i→gs'[i]?=some g→QuitsIn P (q' i) g) ∧
  TI t' (own1 O') (fun i=>Knows t' 0 i) noSet w'.heap.size∧∀ x,O' x→x < w'.heap.size
theorem Ends.step {n:Nat} {gs gs1:Array Goroutine} {w w1:World} {sl sl1:Option (Nat×Nat)} {t:Trace} {ops:Array MemOp} (h:stepT P (crowd gs w sl)=(.next (crowd gs1 w1 sl1),ops)) (k:Ends P Fin n gs1 w1 sl1 (t++ops)):Ends P Fin n gs w sl t:=by
 obtain ⟨N,gs',w',sl',t',q',a',O',h1,h2⟩:=k;exact ⟨N+1,gs',w',sl',t',q',a',O',by rw [runNT_succ_next h];exact h1,h2⟩
theorem Gu.evIn {O:Set_} {w w':World} {es:Array Event} (h:Gu O w w' es):∀ e∈es,EvIn O w.heap.size w'.heap.size e:=h.ev
theorem Gu.ry {O U:Set_} {w w':World} {es:Array Event} (h:Gu O w w' es) (hU:∀ x,U x→x < w.heap.size∧¬ O x):Ry U w w':=
 ⟨h.tape,h.os,h.output,h.size,fun x hx=>h.keep x (hU x hx).1 (hU x hx).2⟩
theorem ry_at (O:Set_) (w:World) (d:Nat):Ry O w (w.at d):=⟨rfl,rfl,rfl,Nat.le_refl _,fun _ _=>rfl⟩
theorem ry_chan {O:Set_} {w:World} (o:Obj) (h:¬ O c):Ry O w { w with heap:=w.heap.setIfInBounds c o }:=
 ⟨rfl,rfl,rfl,by simp,fun x hx=>by
  have hne:c≠x:=fun e=>h (e ▸ hx);simp [hne]⟩
theorem notBlocked {k:Nat} {g:Goroutine} (h:QuitsIn P k g):g.status≠.blocked:=by
 rcases h.status with h | h<;>rw [h]<;>simp
theorem quits_awake {k:Nat} {g:Goroutine} (h:QuitsIn P k g):awake g:=awake_of (h.status.elim .inl fun h=>.inr (.inr h))
theorem sched {n:Nat} {gs:Array Goroutine} {w:World} {sl:Option (Nat×Nat)} {t:Trace} (aw:∀ (i:Nat) (g:Goroutine),gs[i]?=some g→awake g) (some1:∃ (i:Nat) (g:Goroutine),gs[i]?=some g∧g.status=.running)
 (each:∀ (i:Nat) (g:Goroutine) (d:Nat) (sl':Option (Nat×Nat)),gs[i]?=some g→g.status=.running→∃ gs1 w1 ops,runT P (crowd gs (w.at d) sl') i=(.next (crowd gs1 w1 sl'),ops)∧Ends P Fin n gs1 w1 sl' (t++ops)):Ends P Fin n gs w sl t:=by
 obtain ⟨i,g,d,sl',hi,hg,hst⟩:=crowd_pick (P:=P) (w:=w) (sl:=sl) (fun g hg=>by
  obtain ⟨i,hi,rfl⟩:=Array.mem_iff_getElem.1 hg;exact aw i _ (Array.getElem?_eq_getElem hi)) some1
 obtain ⟨gs1,w1,ops,h1,h2⟩:=each i g d sl' hi hg;exact Ends.step (hst.trans h1) h2
theorem leaver {k:Nat} {g:Goroutine} (h:QuitsIn P k g) (hr:g.status=.running):∃ k' g',k=k'+1∧(∀ w,stepG P false g w=.go g' w #[])∧QuitsIn P k' g':=by
 cases k with
 | zero=>rw [show g.status=.finished from h] at hr;cases hr
 | succ k=>
  rcases h with h | ⟨_,g',h1,h2⟩
  .rw [h] at hr;cases hr
  .exact ⟨k,g',rfl,h1,h2⟩
theorem app_none (t:Trace) (g:Nat) (fn:FuncId) (pos:String):t++MemOp.ofEvents g fn pos #[]=t:=by
 rw [ofEvents_none,Array.append_empty]
def ShutG (P:Program) (c:Nat) (Fin:Set_→Goroutine→World→Prop) (n:Nat) (OA:Set_) (a:Goroutine) (w:World):Prop:=
 ∀ (M:Nat) (gs:Array Goroutine) (sl:Option (Nat×Nat)) (t:Trace) (q:Nat→Nat) (w1:World) (pc:Nat),sumTo gs.size q=M→Ry OA w w1→gs.size=n→gs[0]?=some a→(∀ (i:Nat) (g:Goroutine),0 < i→gs[i]?=some g→QuitsIn P (q i) g) →
  (∃ k r tm,w1.heap[c]?=some (.chan 0 #[] true k r tm))→(∀ x,OA x→x < w1.heap.size)→¬ OA c→TI t (own1 OA) (fun i=>Knows t 0 i∨Before t i pc) noSet w1.heap.size→t.act? pc=some (.close c)→Ends P Fin n gs w1 sl t
theorem shut_phase {n:Nat} {OA:Set_} {a:Goroutine} {w:World} (hA:Co P true (MStop P c z V Fin []) OA a w):ShutG P c Fin n OA a w:=by
 -- what all cases share: a leaver slips
 have main:∀ (OA:Set_) (a:Goroutine) (w:World),a.status=.running →
  (∀ (gs:Array Goroutine) (sl:Option (Nat×Nat)) (t:Trace) (q:Nat→Nat) (w1:World) (pc:Nat),Ry OA w w1→gs.size=n→gs[0]?=some a→(∀ (i:Nat) (g:Goroutine),0 < i→gs[i]?=some g→QuitsIn P (q i) g) →
   (∃ k r tm,w1.heap[c]?=some (.chan 0 #[] true k r tm))→(∀ x,OA x→x < w1.heap.size)→¬ OA c→TI t (own1 OA) (fun i=>Knows t 0 i∨Before t i pc) noSet w1.heap.size→t.act? pc=some (.close c) →
   ∃ gs1 w2 ops,runT P (crowd gs w1 sl) 0=(.next (crowd gs1 w2 sl),ops)∧Ends P Fin n gs1 w2 sl (t++ops))→ShutG P c Fin n OA a w:=by
  intro OA a w har hmove M
  induction M using Nat.strongRecOn with
  | _ M ihM=>
   intro gs sl t q w1 pc hM hr hn ga el hc la ca ti hpc;refine sched (fun i g hi=>?_) ⟨0,a,ga,har⟩ fun i g d sl' hi hg=>?_
   .rcases Nat.eq_zero_or_pos i with rfl | hp
    .rw [ga] at hi;cases hi;exact awake_of (.inl har)
    .exact quits_awake (el i g hp hi)
   .rcases Nat.eq_zero_or_pos i with rfl | hp
    .exact hmove gs sl' t q (w1.at d) pc (hr.trans (ry_at _ _ _)) hn ga el hc la ca ti hpc
    .obtain ⟨k,g',hk,hst,hq⟩:=leaver (el i g hp hi) hg;have hi0:(i == 0)=false:=by simp;omega
     refine ⟨_,_,_,runT_crowd_go hi (by rw [hi0];exact hst (w1.at d)),?_⟩;rw [app_none];have hsz:((gs.map (woken P g g' (w1.at d))).setIfInBounds i g').size=gs.size:=by simp
     refine ihM _ (by rw [hsz,← hM];exact sum_lt (Array.getElem?_eq_some_iff.1 hi).1 hk) _ sl' t (upd q i k) (w1.at d) pc rfl (hr.trans (ry_at _ _ _)) (hsz.trans hn) ?_ ?_ hc la ca ti hpc
     .rw [get_set _ _ _ _ _ (by omega),ga,Option.map_some,woken_running har]
     .intro j x hj hx;by_cases hji:j=i
      .subst hji;rw [get_set_same _ _ _ _ _ hi] at hx;cases hx;rw [upd_same];exact hq
      .rw [get_set _ _ _ _ _ hji] at hx;obtain ⟨y,hy,rfl⟩:=Option.map_eq_some_iff.1 hx;have:=el j y hj hy;rw [upd_ne _ _ hji]
       rwa [woken_quits this]
 induction hA with
 | @stop OA a w hst=>
  refine main OA a w (hst w (Ry.refl _ _)).1.1 fun gs sl t q w1 pc hr hn ga el hc la ca ti hpc=>?_;obtain ⟨k,r,tm,hc⟩:=hc;obtain ⟨⟨_,hcomm⟩,hfin⟩:=hst w1 hr;have hp:partners (gs.setIfInBounds 0 ph) c true=[]:=partners_nil fun j g hj=>by
   rcases getElem?_stand gs 0 j g hj with ⟨_,rfl⟩ | ⟨hne,h⟩
   .rfl
   .exact offersAt_of_not_blocked (notBlocked (el j g (by omega) h)) _ _
  have hrun:=crowd_recv_closed (P:=P) (sl:=sl) ga (show stepG P (0 == 0) a w1=_ from hcomm) hc hp;rw [ofEvents_none,Array.empty_append] at hrun;refine ⟨_,_,_,hrun,0,_,_,_,_,q,_,OA,rfl,by simpa using hn,by rw [finishComm_recv];simp [(Array.getElem?_eq_some_iff.1 ga).1];rfl,hfin w1 (Ry.refl _ _),fun i g hi hx=>?_,?_,la⟩
  .rw [Array.getElem?_setIfInBounds_ne (by omega)] at hx;exact el i g hi hx
  .have hw:Wordless (t++#[({ g:=0,fn:=(core a).frame.fn,pos:=(core a).frame.place,act:=.recvClosed c }:MemOp)]):=ti.wl.append fun op hop m hm=>by simp at hop;subst hop;cases hm
   have ti2:=ti.mute (u:=#[({ g:=0,fn:=(core a).frame.fn,pos:=(core a).frame.place,act:=.recvClosed c }:MemOp)]) (Kn':=fun i=>Knows (t++#[({ g:=0,fn:=(core a).frame.fn,pos:=(core a).frame.place,act:=.recvClosed c }:MemOp)]) 0 i) (fun op hop=>by simp at hop;subst hop;rfl) (fun op hop m hm=>by simp at hop;subst hop;cases hm) fun i hi=>by
    rcases hi with hi | hi
    .exact hi.app _
    .exact knows_closed (c:=c) (q:=t.size) (y:={ g:=0,fn:=(core a).frame.fn,pos:=(core a).frame.place,act:=.recvClosed c }) hw (hi.app _) (by rw [act?_old (lt_of_act? hpc)];exact hpc) (by simp) rfl
   exact ti2
 | @step OA a w hs h1 h2 ihA=>
  refine main OA a w hs fun gs sl t q w1 pc hr hn ga el hc la ca ti hpc=>?_;obtain ⟨g',w',es,hgo,gu⟩:=h1 w1 hr;refine ⟨_,_,_,runT_crowd_go ga (show stepG P (0 == 0) a w1=_ from hgo),?_⟩;obtain ⟨k,r,tm,hc⟩:=hc;have hcl:=lt_of_heap hc;refine ihA w1 g' w' es hr hgo _ _ sl _ q w' pc rfl (Ry.refl _ _) (by simpa using hn) (get_set_same _ _ _ _ _ ga) (fun i x hi hx=>?_) ⟨k,r,tm,by rw [gu.keep c hcl ca];exact hc⟩ (fun x hx=>?_) (fun h=>?_) ?_ ?_
  .rw [get_set _ _ _ _ _ (by omega)] at hx;obtain ⟨y,hy,rfl⟩:=Option.map_eq_some_iff.1 hx;have:=el i y hi hy
   rwa [woken_quits this]
  .rcases hx with hx | hx
   .exact Nat.lt_of_lt_of_le (la x hx) gu.size
   .exact hx.2
  .rcases h with h | h
   .exact ca h
   .omega
  .exact ti.step (g:=0) (fun g' x hg h1 h2=>hg h2.1) (fun g x hx=>la x hx.2) (fun x hx=>hx.elim) (fun x hx=>hx.elim) gu.size (fun e he=>(gu.evIn e he).imp id fun ⟨x,h1,h2⟩=>⟨x,h1,h2.imp (fun h=>⟨rfl,h⟩) id⟩)
    (fun x hx=>hx.2.imp (fun h=>⟨rfl,h⟩) id) (fun g' hg x hx=>absurd hx.1 hg) (fun i hi=>hi.imp (·.app _) (·.app _)) (fun i hi=>.inl hi)
  .rw [act?_old (lt_of_act? hpc)];exact hpc
end
section
variable {P:Program} {c s n:Nat} {z:Value} {ι:Type} {V:ι→Value→Nat→World→Prop} {Fin:Set_→Goroutine→World→Prop}
def OpenAt (c:Nat) (w:World):Prop:=∃ k tm,w.heap[c]?=some (.chan 0 #[] false k k tm)
structure OpI (P:Program) (c s n:Nat) (gs:Array Goroutine) (t:Trace) (q:Nat→Nat) (w:World) (OA OB:Set_) (a b:Goroutine):Prop where
 n:gs.size=n
 cr:Cr P gs s a b q
 ch:OpenAt c w
 la:∀ x,OA x→x < w.heap.size
 lb:∀ x,OB x→x < w.heap.size
 dis:∀ x,OA x→¬ OB x
 ca:¬ OA c
 cb:¬ OB c
 ti:TI t (own2 s OA OB) (fun i=>Knows t 0 i∨Knows t s i) (fun x=>x=c) w.heap.size
section
variable {gs:Array Goroutine} {t:Trace} {q:Nat→Nat} {w w':World} {OA OB:Set_} {a b a' b' g g':Goroutine} {es:Array Event} {fn:FuncId} {pos:String}
theorem OpI.cl (h:OpI P c s n gs t q w OA OB a b):c < w.heap.size:=by obtain ⟨k,tm,h⟩:=h.ch;exact lt_of_heap h
theorem OpI.ne (h:OpI P c s n gs t q w OA OB a b):s≠0:=by have:=h.cr.s0;omega
theorem OpI.at_ (h:OpI P c s n gs t q w OA OB a b) (d:Nat):OpI P c s n gs t q (w.at d) OA OB a b:=⟨h.n,h.cr,h.ch,h.la,h.lb,h.dis,h.ca,h.cb,h.ti⟩
theorem grow_lt {O:Set_} (hl:∀ x,O x→x < w.heap.size) (hs:w.heap.size≤w'.heap.size):∀ x,Grow O w w' x→x < w'.heap.size:=fun x hx=>hx.elim (fun h=>Nat.lt_of_lt_of_le (hl x h) hs) (·.2)
theorem OpI.go0 (h:OpI P c s n gs t q w OA OB a b) (hb:Calm P b w') (gu:Gu OA w w' es):OpI P c s n ((gs.map (woken P g g' w')).setIfInBounds 0 a') (t++MemOp.ofEvents 0 fn pos es) q w' (Grow OA w w') OB a' b:=by
 have hc:=h.cl;have hne:=h.ne;obtain ⟨k,tm,hch⟩:=h.ch;refine ⟨by simpa using h.n,h.cr.step0 hb,⟨k,tm,by rw [gu.keep c hc h.ca];exact hch⟩,grow_lt h.la gu.size,fun x hx=>Nat.lt_of_lt_of_le (h.lb x hx) gu.size,fun x hx hb=>?_,fun hx=>?_,h.cb,?_⟩
 .rcases hx with hx | hx
  .exact h.dis x hx hb
  .have:=h.lb x hb;omega
 .rcases hx with hx | hx
  .exact h.ca hx
  .omega
 .refine h.ti.step (g:=0) (fun g2 x hg h1 h2=>?_) (fun g x hx=>?_) (fun x hx=>by rw [hx];exact hc) (fun x hx h2=>?_) gu.size (fun e he=>(gu.evIn e he).imp id fun ⟨x,h1,h2⟩=>⟨x,h1,h2.imp (fun h=>.inl ⟨rfl,h⟩) id⟩)
   (fun x hx=>?_) (fun g2 hg x hx=>?_) (fun i hi=>hi.imp (·.app _) (·.app _)) (fun i hi=>.inl hi)
  .rcases h1 with h1 | h1
   .rcases h2 with h2 | h2
    .exact hg h2.1
    .exact h.dis x h1.2 h2.2
   .exact hne h1.1.symm
  .exact hx.elim (fun hx=>h.la x hx.2) fun hx=>h.lb x hx.2
  .subst hx;exact h2.elim (fun h2=>h.ca h2.2) fun h2=>h.cb h2.2
  .rcases hx with hx | hx
   .exact hx.2.imp (fun h=>.inl ⟨rfl,h⟩) id
   .exact absurd hx.1.symm hne
  .rcases hx with hx | hx
   .exact absurd hx.1 hg
   .exact .inr hx
theorem OpI.goS (h:OpI P c s n gs t q w OA OB a b) (ha:Calm P a w') (gu:Gu OB w w' es):OpI P c s n ((gs.map (woken P g g' w')).setIfInBounds s b') (t++MemOp.ofEvents s fn pos es) q w' OA (Grow OB w w') a b':=by
 have hc:=h.cl;have hne:=h.ne;obtain ⟨k,tm,hch⟩:=h.ch;refine ⟨by simpa using h.n,h.cr.stepS ha,⟨k,tm,by rw [gu.keep c hc h.cb];exact hch⟩,fun x hx=>Nat.lt_of_lt_of_le (h.la x hx) gu.size,grow_lt h.lb gu.size,fun x ha hx=>?_,h.ca,fun hx=>?_,?_⟩
 .rcases hx with hx | hx
  .exact h.dis x ha hx
  .have:=h.la x ha;omega
 .rcases hx with hx | hx
  .exact h.cb hx
  .omega
 .refine h.ti.step (g:=s) (fun g2 x hg h1 h2=>?_) (fun g x hx=>?_) (fun x hx=>by rw [hx];exact hc) (fun x hx h2=>?_) gu.size (fun e he=>(gu.evIn e he).imp id fun ⟨x,h1,h2⟩=>⟨x,h1,h2.imp (fun h=>.inr ⟨rfl,h⟩) id⟩)
   (fun x hx=>?_) (fun g2 hg x hx=>?_) (fun i hi=>hi.imp (·.app _) (·.app _)) (fun i hi=>.inr hi)
  .rcases h1 with h1 | h1
   .exact hne h1.1
   .rcases h2 with h2 | h2
    .exact h.dis x h2.2 h1.2
    .exact hg h2.1
  .exact hx.elim (fun hx=>h.la x hx.2) fun hx=>h.lb x hx.2
  .subst hx;exact h2.elim (fun h2=>h.ca h2.2) fun h2=>h.cb h2.2
  .rcases hx with hx | hx
   .exact absurd hx.1 hne
   .exact hx.2.imp (fun h=>.inr ⟨rfl,h⟩) id
  .rcases hx with hx | hx
   .exact .inl hx
   .exact absurd hx.1 hg
theorem OpI.set0 (h:OpI P c s n gs t q w OA OB a b):OpI P c s n (gs.setIfInBounds 0 a') t q w OA OB a' b:=⟨by simpa using h.n,h.cr.set0,h.ch,h.la,h.lb,h.dis,h.ca,h.cb,h.ti⟩
theorem OpI.setS (h:OpI P c s n gs t q w OA OB a b):OpI P c s n (gs.setIfInBounds s b') t q w OA OB a b':=⟨by simpa using h.n,h.cr.setS,h.ch,h.la,h.lb,h.dis,h.ca,h.cb,h.ti⟩
theorem OpI.pass {k bk:Nat} {tm:Bool} {x1 x2 x3 x4:MemOp} (h:OpI P c s n gs t q w OA OB a b) (hch:w.heap[c]?=some (.chan 0 #[] false k k tm)) (hb:OB bk)
 (h1:x1.g=s∧x1.act=.send c k) (h2:x2.act=.recv c k 0) (h3:x3.act=.sendDone c k) (h4:x4.g=0∧x4.act=.recvDone c k) :
 OpI P c s n gs (t++#[x1,x2,x3,x4]) q (w.setChan c 0 #[] false (k+1) (k+1) tm) (fun y=>OA y∨y=bk) (fun y=>OB y∧y≠bk) a b:=by
 have hc:=h.cl;have hne:=h.ne;have mute:∀ op∈#[x1,x2,x3,x4],op.act.touch?=none∧∀ m,op.act=.mark m→Neutral m:=fun op hop=>by
  simp at hop;rcases hop with rfl | rfl | rfl | rfl
  .rw [h1.2];exact ⟨rfl,by simp⟩
  .rw [h2];exact ⟨rfl,by simp⟩
  .rw [h3];exact ⟨rfl,by simp⟩
  .rw [h4.2];exact ⟨rfl,by simp⟩
 have hw:Wordless #[x1,x2,x3,x4]:=fun op hop=>(mute op hop).2;have hw2:Wordless (t++#[x1,x2,x3,x4]):=h.ti.wl.append hw;have hsz:(w.setChan c 0 #[] false (k+1) (k+1) tm).heap.size=w.heap.size:=by simp [World.setChan]
 refine ⟨h.n,h.cr,⟨k+1,tm,by simp [World.setChan,hc]⟩,fun x hx=>?_,fun x hx=>by rw [hsz];exact h.lb x hx.1,fun x hx hx2=>?_,fun hx=>?_,fun hx=>h.cb hx.1,?_⟩
 .rw [hsz];rcases hx with hx | rfl
  .exact h.la x hx
  .exact h.lb _ hb
 .rcases hx with hx | rfl
  .exact h.dis x hx hx2.1
  .exact hx2.2 rfl
 .rcases hx with hx | rfl
  .exact h.ca hx
  .exact h.cb hb
 .rw [hsz];have h5:=h.ti.mute (u:=#[x1,x2,x3,x4]) (Kn':=fun i=>Knows (t++#[x1,x2,x3,x4]) 0 i∨Knows (t++#[x1,x2,x3,x4]) s i) (fun op hop=>(mute op hop).1) hw fun i hi=>hi.imp (·.app _) (·.app _);refine h5.own' (fun g i a x ha hx ho=>?_) fun i hi=>hi;rcases ho with ⟨rfl,ho | rfl⟩ | ⟨rfl,ho⟩
  .exact h5.own 0 i a x ha hx (.inl ⟨rfl,ho⟩)
  .rcases touch_app ha with ⟨_,ha'⟩ | ⟨_,op,hop,_,hto⟩
   .have hk:=h.ti.own s i a x ha' hx (.inr ⟨rfl,hb⟩)
    have:=knows_pass (c:=c) (k:=k) (x:=x1) (y:=x4) (p:=t.size) (q:=t.size+3) hw2 hk (Nat.le_refl _) (by rw [Array.getElem?_append_right (Nat.le_refl _)];simp) h1.1 h1.2
     (by rw [Array.getElem?_append_right (by omega)];simp) h4.2
    rwa [h4.1] at this
   .rw [(mute op hop).1] at hto;cases hto
  .exact h5.own g i a x ha hx (.inr ⟨rfl,ho.1⟩)
theorem open_main (ra:a.status=.running∨a.status=.blocked) (rb:b.status=.running∨b.status=.blocked) (rs:a.status=.running∨b.status=.running) (calA:∀ w,OpenAt c w→Calm P a w) (calB:∀ w,OpenAt c w→Calm P b w)
 {St:World→Prop} (hSt:∀ w d,St w→St (w.at d))
 (move0:a.status=.running→∀ (gs:Array Goroutine) (sl:Option (Nat×Nat)) (t:Trace) (q:Nat→Nat) (w:World),St w→OpI P c s n gs t q w OA OB a b→∃ gs1 w2 ops,runT P (crowd gs w sl) 0=(.next (crowd gs1 w2 sl),ops)∧Ends P Fin n gs1 w2 sl (t++ops))
 (moveS:b.status=.running→∀ (gs:Array Goroutine) (sl:Option (Nat×Nat)) (t:Trace) (q:Nat→Nat) (w:World),St w→OpI P c s n gs t q w OA OB a b→∃ gs1 w2 ops,runT P (crowd gs w sl) s=(.next (crowd gs1 w2 sl),ops)∧Ends P Fin n gs1 w2 sl (t++ops)) :
 ∀ (M:Nat) (gs:Array Goroutine) (sl:Option (Nat×Nat)) (t:Trace) (q:Nat→Nat) (w:World),sumTo gs.size q=M→St w→OpI P c s n gs t q w OA OB a b→Ends P Fin n gs w sl t:=by
 intro M
 induction M using Nat.strongRecOn with
 | _ M ihM=>
  intro gs sl t q w hM hst hI;have hs0:=hI.cr.s0;refine sched (fun i g hi=>?_) ?_ fun i g d sl' hi hg=>?_
  .by_cases h0:i=0
   .subst h0;rw [hI.cr.ga] at hi;cases hi;exact awake_of (ra.elim .inl fun h=>.inr (.inl h))
   .by_cases h1:i=s
    .subst h1;rw [hI.cr.gb] at hi;cases hi;exact awake_of (rb.elim .inl fun h=>.inr (.inl h))
    .exact quits_awake (hI.cr.el i g (by omega) h1 hi)
  .exact rs.elim (fun h=>⟨0,a,hI.cr.ga,h⟩) fun h=>⟨s,b,hI.cr.gb,h⟩
  .by_cases h0:i=0
   .subst h0;rw [hI.cr.ga] at hi;cases hi;exact move0 hg gs sl' t q (w.at d) (hSt _ _ hst) (hI.at_ d)
   .by_cases h1:i=s
    .subst h1;rw [hI.cr.gb] at hi;cases hi;exact moveS hg gs sl' t q (w.at d) (hSt _ _ hst) (hI.at_ d)
    .obtain ⟨k,g',hk,hstp,hq⟩:=leaver (hI.cr.el i g (by omega) h1 hi) hg;have hi0:(i == 0)=false:=by simp;omega
     refine ⟨_,_,_,runT_crowd_go hi (by rw [hi0];exact hstp (w.at d)),?_⟩;rw [app_none];have hsz:((gs.map (woken P g g' (w.at d))).setIfInBounds i g').size=gs.size:=by simp
     have hop:OpenAt c (w.at d):=hI.ch
     exact ihM _ (by rw [hsz,← hM];exact sum_lt (Array.getElem?_eq_some_iff.1 hi).1 hk) _ sl' t (upd q i k) (w.at d) rfl (hSt _ _ hst)
      ⟨hsz.trans hI.n,hI.cr.stepI (calA _ hop) (calB _ hop) (by omega) h1 hi hq,hI.ch,hI.la,hI.lb,hI.dis,hI.ca,hI.cb,hI.ti⟩
end
end
section
variable {P:Program} {c s n:Nat} {z:Value} {ι:Type} {V:ι→Value→Nat→World→Prop} {Fin:Set_→Goroutine→World→Prop}
def VOk (V:ι→Value→Nat→World→Prop):Prop:=∀ r x b w w1,V r x b w→w1.heap[b]?=w.heap[b]?→V r x b w1
def OpenG (P:Program) (c s n:Nat) (z:Value) (V:ι→Value→Nat→World→Prop) (Fin:Set_→Goroutine→World→Prop) (rs:List ι):Prop:=
 ∀ (OA OB:Set_) (a b:Goroutine) (w:World),Co P true (MStop P c z V Fin rs) OA a w→Co P false (SStop P c V rs) OB b w→∀ (gs:Array Goroutine) (sl:Option (Nat×Nat)) (t:Trace) (q:Nat→Nat),OpI P c s n gs t q w OA OB a b→Ends P Fin n gs w sl t
theorem TI.noCh {t:Trace} {Own:Nat→Set_} {Kn:Nat→Prop} {C:Set_} {N:Nat} (h:TI t Own Kn C N):TI t Own Kn noSet N:=⟨h.clean,h.wl,h.kn,h.own,h.low,fun _ _ _ _ _ h=>h⟩
section
variable {gs:Array Goroutine} {t:Trace} {q:Nat→Nat} {w w':World} {OA OB:Set_} {a b a' b' g g':Goroutine} {es:Array Event} {fn:FuncId} {pos:String} {sl:Option (Nat×Nat)}
theorem ry_setChan {O:Set_} {cap:Nat} {buf:Array Value} {cl:Bool} {k r:Nat} {tm:Bool} (h:¬ O c):Ry O w (w.setChan c cap buf cl k r tm):=ry_chan _ h
theorem parts_recv (h:OpI P c s n gs t q w OA OB (parked a' #[rcase c z] (.recv true)) b):partners (gs.setIfInBounds s ph) c false=[(0,0)]:=by
 have hs:=h.cr.s0;have e:=partners_one (gs:=gs.setIfInBounds s ph) (r:=c) (send:=false) (j:=0) (g:=parked a' #[rcase c z] (.recv true)) (by rw [Array.getElem?_setIfInBounds_ne (by omega)];exact h.cr.ga) fun k x hk hx=>by
  rcases getElem?_stand gs s k x hx with ⟨_,rfl⟩ | ⟨hne,hx⟩
  .rfl
  .exact offersAt_of_not_blocked (notBlocked (h.cr.el k x (by omega) hne hx)) _ _
 rw [e,offersAt_parked_recv,if_pos rfl];rfl
theorem parts_send {x zz:Value} (h:OpI P c s n gs t q w OA OB a (parked b' #[scase c x zz] .send)):partners (gs.setIfInBounds 0 ph) c true=[(s,0)]:=by
 have hs:=h.cr.s0;have e:=partners_one (gs:=gs.setIfInBounds 0 ph) (r:=c) (send:=true) (j:=s) (g:=parked b' #[scase c x zz] .send) (by rw [Array.getElem?_setIfInBounds_ne (by omega)];exact h.cr.gb) fun k y hk hx=>by
  rcases getElem?_stand gs 0 k y hx with ⟨_,rfl⟩ | ⟨hne,hx⟩
  .rfl
  .exact offersAt_of_not_blocked (notBlocked (h.cr.el k y (by omega) hk hx)) _ _
 rw [e,offersAt_parked_send,if_pos rfl];rfl
theorem parts_none_recv (h:OpI P c s n gs t q w OA OB a b) (hb:b.status=.running):partners (gs.setIfInBounds 0 ph) c true=[]:=partners_nil fun j g hj=>by
 rcases getElem?_stand gs 0 j g hj with ⟨_,rfl⟩ | ⟨hne,hx⟩
 .rfl
 .by_cases e:j=s
  .subst e;rw [h.cr.gb] at hx;cases hx;exact offersAt_of_not_blocked (by rw [hb];simp) _ _
  .exact offersAt_of_not_blocked (notBlocked (h.cr.el j g (by omega) e hx)) _ _
theorem parts_none_send (h:OpI P c s n gs t q w OA OB a b) (ha:a.status=.running):partners (gs.setIfInBounds s ph) c false=[]:=partners_nil fun j g hj=>by
 rcases getElem?_stand gs s j g hj with ⟨_,rfl⟩ | ⟨hne,hx⟩
 .rfl
 .by_cases e:j=0
  .subst e;rw [h.cr.ga] at hx;cases hx;exact offersAt_of_not_blocked (by rw [ha];simp) _ _
  .exact offersAt_of_not_blocked (notBlocked (h.cr.el j g (by omega) hne hx)) _ _
theorem at_close (hI:OpI P c s n gs t q w OA OB a b) (hb:SStop P c V [] OB b w) (hA:∀ b' k tm,b'.status≠.blocked→b'.status≠.waiting→w.heap[c]?=some (.chan 0 #[] false k k tm)→Co P true (MStop P c z V Fin []) OA (woken P b b' (w.shut c k k tm) a) (w.shut c k k tm)) :
 ∃ gs1 w2 ops,runT P (crowd gs w sl) s=(.next (crowd gs1 w2 sl),ops)∧Ends P Fin n gs1 w2 sl (t++ops):=by
 have hs:=hI.cr.s0;obtain ⟨k,tm,hc⟩:=hI.ch;have hcl:=hI.cl;obtain ⟨hr,hmw,g2,m,hstep,hq⟩:=hb;have hgo:=hstep w k k tm hc;have hs0:(s == 0)=false:=by simp;omega
 have hst:g2.status≠.blocked∧g2.status≠.waiting:=by rcases hq.status with h | h<;>rw [h]<;>simp
 refine ⟨_,_,_,runT_crowd_go hI.cr.gb (by rw [hs0];exact hgo),?_⟩;have hcap:=hA g2 k tm hst.1 hst.2 hc;have hsz:(w.shut c k k tm).heap.size=w.heap.size:=by simp [World.shut]
 -- the trace
 have e0:t++MemOp.ofEvents s b.frame.fn b.frame.place #[⟨.obj c,false,true⟩,⟨.obj c,true,true⟩]=(t++MemOp.ofEvents s b.frame.fn b.frame.place #[⟨.obj c,false,true⟩])++#[({ g:=s,fn:=b.frame.fn,pos:=b.frame.place,act:=.close c }:MemOp)]:=by
  rw [ofEvents_eq,ofEvents_eq,Array.append_assoc];simp [MemAct.ofEvent]
 have t1:TI (t++MemOp.ofEvents s b.frame.fn b.frame.place #[⟨.obj c,false,true⟩]) (own2 s OA (fun x=>x=c)) (fun i=>Knows (t++MemOp.ofEvents s b.frame.fn b.frame.place #[⟨.obj c,false,true⟩]) 0 i∨Knows (t++MemOp.ofEvents s b.frame.fn b.frame.place #[⟨.obj c,false,true⟩]) s i) noSet w.heap.size:=by
  have t0:TI t (own2 s OA (fun x=>x=c)) (fun i=>Knows t 0 i∨Knows t s i) noSet w.heap.size:=hI.ti.noCh.own' (fun g i a x ha hx ho=>by
   rcases ho with ⟨rfl,ho⟩ | ⟨rfl,ho⟩
   .exact hI.ti.own 0 i a x ha hx (.inl ⟨rfl,ho⟩)
   .exact absurd ho (hI.ti.ch i a x ha hx)) fun i hi=>hi
  refine t0.step (g:=s) (fun g2 x hg h1 h2=>?_) (fun g x hx=>?_) (fun x hx=>hx.elim) (fun x hx=>hx.elim) (Nat.le_refl _) (fun e he=>?_) (fun x hx=>.inl hx) (fun g2 hg x hx=>hx) (fun i hi=>hi.imp (·.app _) (·.app _)) (fun i hi=>.inr hi)
  .rcases h1 with h1 | h1
   .exact hI.ne h1.1
   .rcases h2 with h2 | h2
    .exact hI.ca (h1.2 ▸ h2.2)
    .exact hg h2.1
  .rcases hx with hx | hx
   .exact hI.la x hx.2
   .rw [hx.2];exact hcl
  .simp at he;subst he;exact .inr ⟨c,.inr rfl,.inl (.inr ⟨rfl,rfl⟩)⟩
 generalize hu:t++MemOp.ofEvents s b.frame.fn b.frame.place #[⟨.obj c,false,true⟩]=u at t1 e0
 have hlast:(u++#[({ g:=s,fn:=b.frame.fn,pos:=b.frame.place,act:=.close c }:MemOp)])[u.size]?=some { g:=s,fn:=b.frame.fn,pos:=b.frame.place,act:=.close c }:=by simp
 have t2:TI (u++#[({ g:=s,fn:=b.frame.fn,pos:=b.frame.place,act:=.close c }:MemOp)]) (own1 OA) (fun i=>Knows (u++#[({ g:=s,fn:=b.frame.fn,pos:=b.frame.place,act:=.close c }:MemOp)]) 0 i∨Before (u++#[({ g:=s,fn:=b.frame.fn,pos:=b.frame.place,act:=.close c }:MemOp)]) i u.size) noSet w.heap.size:=by
  have:=t1.mute (u:=#[({ g:=s,fn:=b.frame.fn,pos:=b.frame.place,act:=.close c }:MemOp)]) (Kn':=fun i=>Knows (u++#[({ g:=s,fn:=b.frame.fn,pos:=b.frame.place,act:=.close c }:MemOp)]) 0 i∨Before (u++#[({ g:=s,fn:=b.frame.fn,pos:=b.frame.place,act:=.close c }:MemOp)]) i u.size)
   (fun op hop=>by simp at hop;subst hop;rfl) (fun op hop m hm=>by simp at hop;subst hop;cases hm) fun i hi=>by
    rcases hi with hi | hi
    .exact .inl (hi.app _)
    .exact .inr (.inr (hi.hb_new (Nat.le_refl _) hlast rfl))
  exact this.own' (fun g i a x ha hx ho=>this.own g i a x ha hx (.inl ho)) fun i hi=>hi
 have hch2:(w.shut c k k tm).heap[c]?=some (.chan 0 #[] true k k tm):=by simp [World.shut,hcl]
 rw [e0];refine shut_phase hcap _ _ sl _ (upd q s m) _ u.size rfl (Ry.refl _ _) (by simpa using hI.n) ?_ (fun i x hi hx=>?_) ⟨k,k,tm,hch2⟩ (fun x hx=>by rw [hsz];exact hI.la x hx) hI.ca (by rw [hsz];exact t2) (by rw [act?_of hlast])
 .rw [get_set _ _ _ _ _ (by omega),hI.cr.ga,Option.map_some]
 .by_cases e:i=s
  .subst e;rw [get_set_same _ _ _ _ _ hI.cr.gb] at hx;cases hx;rw [upd_same];exact hq
  .rw [get_set _ _ _ _ _ e] at hx;obtain ⟨y,hy,rfl⟩:=Option.map_eq_some_iff.1 hx;have:=hI.cr.el i y hi e hy;rw [upd_ne _ _ e]
   rwa [woken_quits this]
end
end

