/- -/
import Derived.Test.YtiblbnkpjmmjaaaGreatQ07
import Derived.Conc.Beside
set_option maxRecDepth 100000
set_option maxHeartbeats 16000000
set_option linter.all false
namespace Go.Proofs.YtiblbnkpjmmjaaaGreat
open Go.Conc
open Go.ConcN (sumTo upd sumTo_upd upd_ne upd_same)
section
variable {P:Program} {c s n:Nat} {z:Value} {ι:Type} {V:ι→Value→Nat→World→Prop} {Fin:Set_→Goroutine→World→Prop}
theorem calm_recv {g:Goroutine} {w:World} (h:OpenAt c w):Calm P (parked g #[rcase c z] (.recv true)) w:=fun g1 g2=>by
 obtain ⟨k,tm,hc⟩:=h;exact woken_recv_open _ _ hc
theorem calm_send {g:Goroutine} {w:World} {x zz:Value} (h:OpenAt c w):Calm P (parked g #[scase c x zz] .send) w:=fun g1 g2=>by
 obtain ⟨k,tm,hc⟩:=h;exact woken_send_open _ _ hc
theorem MStop.again {rs:List ι} {O:Set_} {g:Goroutine} {w:World} (h:MStop P c z V Fin rs O g w):MStop P c z V Fin rs O { parked (core g) #[rcase c z] (.recv true) with status:=.running } w:=by
 have e:stepG P true { parked (core g) #[rcase c z] (.recv true) with status:=.running } w=stepG P true g w:=stepG_same rfl rfl rfl w;have hr:RecvAt P c z { parked (core g) #[rcase c z] (.recv true) with status:=.running } w:=⟨rfl,by rw [e];exact h.at_.2⟩;cases rs<;>exact ⟨hr,h.2⟩
theorem phase_recv (hV:VOk V) {rs:List ι} (ih:∀ r rs',rs=r :: rs'→OpenG P c s n z V Fin rs') {OB:Set_} {b:Goroutine} {wB:World} (hB:Co P false (SStop P c V rs) OB b wB) :
 ∀ (OA:Set_) (g:Goroutine) (wA:World),(∀ w,Ry OA wA w→MStop P c z V Fin rs OA g w)→∀ (gs:Array Goroutine) (sl:Option (Nat×Nat)) (t:Trace) (q:Nat→Nat) (w:World),Ry OB wB w→Ry OA wA w →
  OpI P c s n gs t q w OA OB (parked (core g) #[rcase c z] (.recv true)) b→Ends P Fin n gs w sl t:=by
 induction hB with
 | @stop OB b wB hst=>
  intro OA g wA hA gs sl t q w hrB hrA hI;have hbr:b.status=.running:=(hst wB (Ry.refl _ _)).run;refine open_main (St:=fun w=>Ry OB wB w∧Ry OA wA w) (.inr rfl) (.inl hbr) (.inr hbr) (fun w h=>calm_recv h) (fun w h=>calm_run hbr) (fun w d h=>⟨h.1.trans (ry_at _ _ _),h.2.trans (ry_at _ _ _)⟩) (fun h=>by cases h) (fun _ gs sl t q w hw hI=>?_) _ gs sl t q w rfl ⟨hrB,hrA⟩ hI;have hb:=hst w hw.1;cases rs with
  | nil=>
   refine at_close (z:=z) (V:=V) hI hb fun b' k tm h1 h2 hc=>?_;have hch2:(w.shut c k k tm).heap[c]?=some (.chan 0 #[] true k k tm):=by simp [World.shut,hI.cl]
   have hry:Ry OA wA (w.shut c k k tm):=hw.2.trans (ry_chan _ hI.ca);have e:woken P b b' (w.shut c k k tm) (parked (core g) #[rcase c z] (.recv true))={ parked (core g) #[rcase c z] (.recv true) with status:=.running }:=by
    unfold woken;rw [if_pos (by simp [hb.2.1,h1,h2]),again_recv_closed hch2]
   rw [e];exact .stop fun w2 h2=>(hA w2 (hry.trans h2)).again
  | cons r rs'=>
   obtain ⟨_,g2,zz,x,bk,hbk,hv,hstep,hnext⟩:=hb;obtain ⟨k,tm,hc⟩:=hI.ch;have hs0:(s == 0)=false:=by have:=hI.cr.s0;simp;omega
   have hrun:=crowd_send_meets (P:=P) (sl:=sl) hI.cr.gb (show stepG P (s == 0) b w=_ by rw [hs0];exact hstep) hc (by have:=hI.cr.s0;omega) hI.cr.ga (parts_recv hI);rw [ofEvents_none,Array.empty_append,finishComm_recv,finishComm_send] at hrun;refine ⟨_,_,_,hrun,?_⟩;have hM:=(hA w hw.2).2 (w.setChan c 0 #[] false (k+1) (k+1) tm) x bk (ry_setChan hI.ca) (fun h=>hI.dis _ h hbk) (hV _ _ _ _ _ hv (by
    have hne:c≠bk:=fun e=>hI.cb (e ▸ hbk);simp [World.setChan,hne]))
   have hSn:=hnext (w.setChan c 0 #[] false (k+1) (k+1) tm) (ry_setChan fun h=>hI.cb h.1);refine ih r rs' rfl _ _ _ _ _ hM hSn _ sl _ q ?_;exact (OpI.pass hI hc hbk ⟨rfl,rfl⟩ rfl rfl ⟨rfl,rfl⟩).set0.setS
 | @step OB b wB hs h1 h2 ihB=>
  intro OA g wA hA gs sl t q w hrB hrA hI;refine open_main (St:=fun w=>Ry OB wB w∧Ry OA wA w) (.inr rfl) (.inl hs) (.inr hs) (fun w h=>calm_recv h) (fun w h=>calm_run hs) (fun w d h=>⟨h.1.trans (ry_at _ _ _),h.2.trans (ry_at _ _ _)⟩) (fun h=>by cases h) (fun _ gs sl t q w hw hI=>?_) _ gs sl t q w rfl ⟨hrB,hrA⟩ hI;obtain ⟨g',w',es,hgo,gu⟩:=h1 w hw.1;have hs0:(s == 0)=false:=by have:=hI.cr.s0;simp;omega
  refine ⟨_,_,_,runT_crowd_go hI.cr.gb (by rw [hs0];exact hgo),?_⟩;have hryA:Ry OA w w':=gu.ry fun x hx=>⟨hI.la x hx,hI.dis x hx⟩;have hop:OpenAt c w':=by obtain ⟨k,tm,hc⟩:=hI.ch;exact ⟨k,tm,by rw [gu.keep c hI.cl hI.cb];exact hc⟩
  exact ihB w g' w' es hw.1 hgo OA g wA hA _ sl _ q w' (Ry.refl _ _) (hw.2.trans hryA) (hI.goS (calm_recv hop) gu)
theorem phase_send (hV:VOk V) {r:ι} {rs':List ι} (ih:OpenG P c s n z V Fin rs') {OA:Set_} {a:Goroutine} {wA:World} (hA:Co P true (MStop P c z V Fin (r :: rs')) OA a wA) :
 ∀ (OB:Set_) (g2:Goroutine) (wB:World) (zz x:Value) (bk:Nat),OB bk→(∀ w,Ry OB wB w→V r x bk w)→(∀ w2,Ry (fun y=>OB y∧y≠bk) wB w2→Co P false (SStop P c V rs') (fun y=>OB y∧y≠bk) (Go.Conc.served g2 undef) w2) →
  ∀ (gs:Array Goroutine) (sl:Option (Nat×Nat)) (t:Trace) (q:Nat→Nat) (w:World),Ry OA wA w→Ry OB wB w→OpI P c s n gs t q w OA OB a (parked g2 #[scase c x zz] .send)→Ends P Fin n gs w sl t:=by
 induction hA with
 | @stop OA a wA hst=>
  intro OB g2 wB zz x bk hbk hv hnext gs sl t q w hrA hrB hI;have har:a.status=.running:=(hst wA (Ry.refl _ _)).at_.1;refine open_main (St:=fun w=>Ry OA wA w∧Ry OB wB w) (.inl har) (.inr rfl) (.inl har) (fun w h=>calm_run har) (fun w h=>calm_send h) (fun w d h=>⟨h.1.trans (ry_at _ _ _),h.2.trans (ry_at _ _ _)⟩) (fun _ gs sl t q w hw hI=>?_) (fun h=>by cases h) _ gs sl t q w rfl ⟨hrA,hrB⟩ hI;obtain ⟨⟨_,hstep⟩,hM⟩:=hst w hw.1;obtain ⟨k,tm,hc⟩:=hI.ch;have hrun:=crowd_recv_meets (P:=P) (sl:=sl) hI.cr.ga (show stepG P (0 == 0) a w=_ from hstep) hc (by have:=hI.cr.s0;omega) hI.cr.gb (parts_send hI);rw [ofEvents_none,Array.empty_append,finishComm_recv,finishComm_send] at hrun;refine ⟨_,_,_,hrun,?_⟩;have hM2:=hM (w.setChan c 0 #[] false (k+1) (k+1) tm) x bk (ry_setChan hI.ca) (fun h=>hI.dis _ h hbk) (hV _ _ _ _ _ (hv w hw.2) (by
   have hne:c≠bk:=fun e=>hI.cb (e ▸ hbk);simp [World.setChan,hne]))
  have hSn:=hnext (w.setChan c 0 #[] false (k+1) (k+1) tm) ((hw.2.sub fun x hx=>hx.1).trans (ry_setChan fun h=>hI.cb h.1));refine ih _ _ _ _ _ hM2 hSn _ sl _ q ?_;exact (OpI.pass hI hc hbk ⟨rfl,rfl⟩ rfl rfl ⟨rfl,rfl⟩).setS.set0
 | @step OA a wA hs h1 h2 ihA=>
  intro OB g2 wB zz x bk hbk hv hnext gs sl t q w hrA hrB hI;refine open_main (St:=fun w=>Ry OA wA w∧Ry OB wB w) (.inl hs) (.inr rfl) (.inl hs) (fun w h=>calm_run hs) (fun w h=>calm_send h) (fun w d h=>⟨h.1.trans (ry_at _ _ _),h.2.trans (ry_at _ _ _)⟩) (fun _ gs sl t q w hw hI=>?_) (fun h=>by cases h) _ gs sl t q w rfl ⟨hrA,hrB⟩ hI;obtain ⟨g',w',es,hgo,gu⟩:=h1 w hw.1;refine ⟨_,_,_,runT_crowd_go hI.cr.ga (show stepG P (0 == 0) a w=_ from hgo),?_⟩;have hryB:Ry OB w w':=gu.ry fun x hx=>⟨hI.lb x hx,fun h=>hI.dis x h hx⟩;have hop:OpenAt c w':=by obtain ⟨k,tm,hc⟩:=hI.ch;exact ⟨k,tm,by rw [gu.keep c hI.cl hI.ca];exact hc⟩
  exact ihA w g' w' es hw.1 hgo OB g2 wB zz x bk hbk hv hnext _ sl _ q w' (Ry.refl _ _) (hw.2.trans hryB) (hI.go0 (calm_send hop) gu)
section
variable {gs:Array Goroutine} {t:Trace} {q:Nat→Nat} {w wA wB:World} {OA OB:Set_} {a b:Goroutine} {sl:Option (Nat×Nat)} {rs:List ι}
theorem recv_parks (hV:VOk V) (ih:∀ r rs',rs=r :: rs'→OpenG P c s n z V Fin rs') (hst:∀ w,Ry OA wA w→MStop P c z V Fin rs OA a w) (hB:Co P false (SStop P c V rs) OB b wB) (hbr:b.status=.running) (hrA:Ry OA wA w) (hrB:Ry OB wB w) (hI:OpI P c s n gs t q w OA OB a b) :
 ∃ gs1 w2 ops,runT P (crowd gs w sl) 0=(.next (crowd gs1 w2 sl),ops)∧Ends P Fin n gs1 w2 sl (t++ops):=by
 obtain ⟨_,hstep⟩:=(hst w hrA).at_;obtain ⟨k,tm,hc⟩:=hI.ch;have hrun:=crowd_waits (P:=P) (sl:=sl) hI.cr.ga (show stepG P (0 == 0) a w=_ from hstep) fun cc hcc=>by
  simp at hcc;subst hcc;exact ways_recv_none hc (parts_none_recv hI hbr)
 refine ⟨_,_,_,hrun,?_⟩;rw [app_none];exact phase_recv hV ih hB OA a wA hst _ sl t q w hrB hrA hI.set0
theorem send_stops (hV:VOk V) (ih:∀ r rs',rs=r :: rs'→OpenG P c s n z V Fin rs') (hA:Co P true (MStop P c z V Fin rs) OA a wA) (har:a.status=.running) (hb:SStop P c V rs OB b w) (hrA:Ry OA wA w) (hI:OpI P c s n gs t q w OA OB a b) :
 ∃ gs1 w2 ops,runT P (crowd gs w sl) s=(.next (crowd gs1 w2 sl),ops)∧Ends P Fin n gs1 w2 sl (t++ops):=by
 cases rs with
 | nil=>
  refine at_close (z:=z) (V:=V) hI hb fun b' k tm h1 h2 hc=>?_;rw [woken_running har];exact hA.rely (hrA.trans (ry_chan _ hI.ca))
 | cons r rs'=>
  obtain ⟨_,g2,zz,x,bk,hbk,hv,hstep,hnext⟩:=hb;obtain ⟨k,tm,hc⟩:=hI.ch;have hs0:(s == 0)=false:=by have:=hI.cr.s0;simp;omega
  have hrun:=crowd_waits (P:=P) (sl:=sl) hI.cr.gb (show stepG P (s == 0) b w=_ by rw [hs0];exact hstep) fun cc hcc=>by
   simp at hcc;subst hcc;exact ways_send_none hc (Nat.le_refl _) (parts_none_send hI har)
  refine ⟨_,_,_,hrun,?_⟩;rw [app_none];exact phase_send hV (ih r rs' rfl) hA OB g2 w zz x bk hbk (fun w2 h2=>hV _ _ _ _ _ hv (h2.keep bk hbk)) hnext _ sl t q w hrA (Ry.refl _ _) hI.setS
end
theorem phase_both (hV:VOk V) {rs:List ι} (ih:∀ r rs',rs=r :: rs'→OpenG P c s n z V Fin rs') {OA:Set_} {a:Goroutine} {wA:World} (hA:Co P true (MStop P c z V Fin rs) OA a wA) :
 ∀ (OB:Set_) (b:Goroutine) (wB:World),Co P false (SStop P c V rs) OB b wB→∀ (gs:Array Goroutine) (sl:Option (Nat×Nat)) (t:Trace) (q:Nat→Nat) (w:World),Ry OA wA w→Ry OB wB w→OpI P c s n gs t q w OA OB a b→Ends P Fin n gs w sl t:=by
 have hrunS:∀ {OB b wB},Co P false (SStop P c V rs) OB b wB→b.status=.running:=fun h=>h.run fun _ _ _=>SStop.run
 induction hA with
 | @stop OA a wA hst=>
  intro OB b wB hB;have har:a.status=.running:=(hst wA (Ry.refl _ _)).at_.1
  induction hB with
  | @stop OB b wB hstB=>
   intro gs sl t q w hrA hrB hI;have hbr:=hrunS (.stop hstB)
   exact open_main (St:=fun w=>Ry OA wA w∧Ry OB wB w) (.inl har) (.inl hbr) (.inl har) (fun w h=>calm_run har) (fun w h=>calm_run hbr) (fun w d h=>⟨h.1.trans (ry_at _ _ _),h.2.trans (ry_at _ _ _)⟩)
    (fun _ gs sl t q w hw hI=>recv_parks hV ih hst (.stop hstB) hbr hw.1 hw.2 hI) (fun _ gs sl t q w hw hI=>send_stops hV ih (.stop hst) har (hstB w hw.2) hw.1 hI) _ gs sl t q w rfl ⟨hrA,hrB⟩ hI
  | @step OB b wB hs h1 h2 ihB=>
   intro gs sl t q w hrA hrB hI
   refine open_main (St:=fun w=>Ry OA wA w∧Ry OB wB w) (.inl har) (.inl hs) (.inl har) (fun w h=>calm_run har) (fun w h=>calm_run hs) (fun w d h=>⟨h.1.trans (ry_at _ _ _),h.2.trans (ry_at _ _ _)⟩)
    (fun _ gs sl t q w hw hI=>recv_parks hV ih hst (.step hs h1 h2) hs hw.1 hw.2 hI) (fun _ gs sl t q w hw hI=>?_) _ gs sl t q w rfl ⟨hrA,hrB⟩ hI
   obtain ⟨g',w',es,hgo,gu⟩:=h1 w hw.2;have hs0:(s == 0)=false:=by have:=hI.cr.s0;simp;omega
   refine ⟨_,_,_,runT_crowd_go hI.cr.gb (by rw [hs0];exact hgo),?_⟩;have hryA:Ry OA w w':=gu.ry fun x hx=>⟨hI.la x hx,hI.dis x hx⟩;exact ihB w g' w' es hw.2 hgo _ sl _ q w' (hw.1.trans hryA) (Ry.refl _ _) (hI.goS (calm_run har) gu)
 | @step OA a wA hs h1 h2 ihA=>
  intro OB b wB hB
  have move0:∀ {OB b wB},Co P false (SStop P c V rs) OB b wB→∀ (gs:Array Goroutine) (sl:Option (Nat×Nat)) (t:Trace) (q:Nat→Nat) (w:World),Ry OA wA w∧Ry OB wB w→OpI P c s n gs t q w OA OB a b →
   ∃ gs1 w2 ops,runT P (crowd gs w sl) 0=(.next (crowd gs1 w2 sl),ops)∧Ends P Fin n gs1 w2 sl (t++ops):=fun {OB b wB} hB gs sl t q w hw hI=>by
   obtain ⟨g',w',es,hgo,gu⟩:=h1 w hw.1;refine ⟨_,_,_,runT_crowd_go hI.cr.ga (show stepG P (0 == 0) a w=_ from hgo),?_⟩;have hryB:Ry OB w w':=gu.ry fun x hx=>⟨hI.lb x hx,fun h=>hI.dis x h hx⟩;exact ihA w g' w' es hw.1 hgo OB b wB hB _ sl _ q w' (Ry.refl _ _) (hw.2.trans hryB) (hI.go0 (calm_run (hrunS hB)) gu)
  induction hB with
  | @stop OB b wB hstB=>
   intro gs sl t q w hrA hrB hI;have hbr:=hrunS (.stop hstB)
   exact open_main (St:=fun w=>Ry OA wA w∧Ry OB wB w) (.inl hs) (.inl hbr) (.inl hs) (fun w h=>calm_run hs) (fun w h=>calm_run hbr) (fun w d h=>⟨h.1.trans (ry_at _ _ _),h.2.trans (ry_at _ _ _)⟩)
    (fun _ gs sl t q w hw hI=>move0 (.stop hstB) gs sl t q w hw hI) (fun _ gs sl t q w hw hI=>send_stops hV ih (.step hs h1 h2) hs (hstB w hw.2) hw.1 hI) _ gs sl t q w rfl ⟨hrA,hrB⟩ hI
  | @step OB b wB hsB h1B h2B ihB=>
   intro gs sl t q w hrA hrB hI
   refine open_main (St:=fun w=>Ry OA wA w∧Ry OB wB w) (.inl hs) (.inl hsB) (.inl hs) (fun w h=>calm_run hs) (fun w h=>calm_run hsB) (fun w d h=>⟨h.1.trans (ry_at _ _ _),h.2.trans (ry_at _ _ _)⟩)
    (fun _ gs sl t q w hw hI=>move0 (.step hsB h1B h2B) gs sl t q w hw hI) (fun _ gs sl t q w hw hI=>?_) _ gs sl t q w rfl ⟨hrA,hrB⟩ hI
   obtain ⟨g',w',es,hgo,gu⟩:=h1B w hw.2;have hs0:(s == 0)=false:=by have:=hI.cr.s0;simp;omega
   refine ⟨_,_,_,runT_crowd_go hI.cr.gb (by rw [hs0];exact hgo),?_⟩;have hryA:Ry OA w w':=gu.ry fun x hx=>⟨hI.la x hx,hI.dis x hx⟩;exact ihB w g' w' es hw.2 hgo _ sl _ q w' (hw.1.trans hryA) (Ry.refl _ _) (hI.goS (calm_run hs) gu)
theorem open_phase (hV:VOk V):∀ rs:List ι,OpenG P c s n z V Fin rs
 | []=>fun OA OB a b w hA hB gs sl t q hI=>phase_both hV (fun r rs' e=>by cases e) hA OB b w hB gs sl t q w (Ry.refl _ _) (Ry.refl _ _) hI
 | r :: rs=>fun OA OB a b w hA hB gs sl t q hI=>phase_both hV (fun r' rs' e=>by cases e;exact open_phase hV rs) hA OB b w hB gs sl t q w (Ry.refl _ _) (Ry.refl _ _) hI
end
section
variable {P:Program} {c s n:Nat} {Post:Value→World→Prop}
def AtEnd_ (P:Program) (Post:Value→World→Prop) (g:Goroutine) (w:World):Prop:=g.status=.running∧∃ v,stepG P true g w=.ended (.done v) w #[]∧Post v w
def AtGo_ (P:Program) (c:Nat) (Next:Set_→Goroutine→World→Prop) (O:Set_) (g:Goroutine) (w:World):Prop:=
 g.status=.running∧∃ (g' child:Goroutine) (ι:Type) (V:ι→Value→Nat→World→Prop) (rs:List ι) (z:Value),VOk V∧stepG P true g w=.spawn g' child w #[]∧Co P true (MStop P c z V Next rs) O g' w∧Co P false (SStop P c V rs) noSet child w
def AtMk_ (P:Program) (Next:Set_→Goroutine→World→Prop) (O:Set_) (g:Goroutine) (w:World):Prop:=
 g.status=.running∧∃ g',stepG P true g w=.go g' { w with heap:=w.heap.push (.chan 0 #[] false 0 0 false) } #[]∧∃ O',(∀ x,O' x→O x)∧Co P true (AtGo_ P w.heap.size Next) O' g' { w with heap:=w.heap.push (.chan 0 #[] false 0 0 false) }
def Script_ (P:Program) (Post:Value→World→Prop):Nat→Set_→Goroutine→World→Prop
 | 0=>fun O g w=>Co P true (fun _ g w=>AtEnd_ P Post g w) O g w
 | k+1=>fun O g w=>Co P true (fun O g w=>AtEnd_ P Post g w∨AtMk_ P (Script_ P Post k) O g w) O g w
def AloneTo (P:Program) (Stop:Set_→Goroutine→World→Prop) (C:Set_) (U:World→Prop) (gs:Array Goroutine) (w:World) (sl:Option (Nat×Nat)) (t:Trace):Prop:=
 ∃ (N:Nat) (gs':Array Goroutine) (w':World) (sl':Option (Nat×Nat)) (t':Trace) (q':Nat→Nat) (a':Goroutine) (O':Set_),runNT P N (crowd gs w sl) t=(.next (crowd gs' w' sl'),t')∧gs'.size=gs.size∧gs'[0]?=some a'∧(∀ w1,Ry O' w' w1→Stop O' a' w1)∧(∀ (i:Nat) (g:Goroutine),0 < i→gs'[i]?=some g→QuitsIn P (q' i) g) ∧
  TI t' (own1 O') (fun i=>Knows t' 0 i) C w'.heap.size∧(∀ x,O' x→x < w'.heap.size)∧(∀ x,C x→x < w'.heap.size∧¬ O' x)∧U w'
theorem AloneTo.step {Stop:Set_→Goroutine→World→Prop} {C:Set_} {U:World→Prop} {gs gs1:Array Goroutine} {w w1:World} {sl sl1:Option (Nat×Nat)} {t:Trace} {ops:Array MemOp} (h:stepT P (crowd gs w sl)=(.next (crowd gs1 w1 sl1),ops)) (hz:gs1.size=gs.size) (k:AloneTo P Stop C U gs1 w1 sl1 (t++ops)):AloneTo P Stop C U gs w sl t:=by
 obtain ⟨N,gs',w',sl',t',q',a',O',h1,h2,h3⟩:=k;exact ⟨N+1,gs',w',sl',t',q',a',O',by rw [runNT_succ_next h];exact h1,h2.trans hz,h3⟩
theorem alone {Stop:Set_→Goroutine→World→Prop} (hS:∀ O g w,Stop O g w→g.status=.running) {C:Set_} {U:World→Prop} (hU:∀ w w',U w→w'.heap.size ≥ w.heap.size→(∀ x,C x→w'.heap[x]?=w.heap[x]?)→U w') {O:Set_} {a:Goroutine} {w0:World} (h:Co P true Stop O a w0) :
 ∀ (M:Nat) (gs:Array Goroutine) (sl:Option (Nat×Nat)) (t:Trace) (q:Nat→Nat) (w:World),sumTo gs.size q=M→Ry O w0 w→gs[0]?=some a→(∀ (i:Nat) (g:Goroutine),0 < i→gs[i]?=some g→QuitsIn P (q i) g)→TI t (own1 O) (fun i=>Knows t 0 i) C w.heap.size →
  (∀ x,O x→x < w.heap.size)→(∀ x,C x→x < w.heap.size∧¬ O x)→U w→AloneTo P Stop C U gs w sl t:=by
 induction h with
 | @stop O a w0 hst=>
  exact fun M gs sl t q w hM hr ga el ti la lc hu=>⟨0,gs,w,sl,t,q,a,O,rfl,rfl,ga,fun w1 h1=>hst w1 (hr.trans h1),el,ti,la,lc,hu⟩
 | @step O a w0 hs h1 h2 ihA=>
  intro M
  induction M using Nat.strongRecOn with
  | _ M ihM=>
   intro gs sl t q w hM hr ga el ti la lc hu;obtain ⟨i,g,d,sl',hi,hg,hst⟩:=crowd_pick (P:=P) (w:=w) (sl:=sl) (fun g hg=>by
    obtain ⟨i,hi,rfl⟩:=Array.mem_iff_getElem.1 hg;rcases Nat.eq_zero_or_pos i with rfl | hp
    .have:gs[0]=a:=by simpa [Array.getElem?_eq_getElem hi] using ga
     rw [this];exact awake_of (.inl hs)
    .exact quits_awake (el i _ hp (Array.getElem?_eq_getElem hi))) ⟨0,a,ga,hs⟩
   rcases Nat.eq_zero_or_pos i with rfl | hp
   .rw [ga] at hi;cases hi;have hr1:=hr.trans (ry_at O w d);obtain ⟨g',w',es,hgo,gu⟩:=h1 (w.at d) hr1;have hrun:=runT_crowd_go (P:=P) (sl:=sl') ga (show stepG P (0 == 0) a (w.at d)=_ from hgo);refine AloneTo.step (hst.trans hrun) (by simp) ?_;refine ihA (w.at d) g' w' es hr1 hgo _ _ sl' _ q w' rfl (Ry.refl _ _) (get_set_same _ _ _ _ _ ga) (fun i x hi hx=>?_) ?_ (fun x hx=>?_) (fun x hx=>⟨Nat.lt_of_lt_of_le (lc x hx).1 gu.size,fun h=>?_⟩) (hU (w.at d) w' (hU w (w.at d) hu (Nat.le_refl _) fun _ _=>rfl) gu.size fun x hx=>gu.keep x (lc x hx).1 (lc x hx).2)
    .rw [get_set _ _ _ _ _ (by omega)] at hx;obtain ⟨y,hy,rfl⟩:=Option.map_eq_some_iff.1 hx;have:=el i y hi hy
     rwa [woken_quits this]
    .exact ti.step (g:=0) (fun g' x hg h1 h2=>hg h2.1) (fun g x hx=>la x hx.2) (fun x hx=>(lc x hx).1) (fun x hx h=>(lc x hx).2 h.2) gu.size (fun e he=>(gu.evIn e he).imp id fun ⟨x,h1,h2⟩=>⟨x,h1,h2.imp (fun h=>⟨rfl,h⟩) id⟩)
      (fun x hx=>hx.2.imp (fun h=>⟨rfl,h⟩) id) (fun g' hg x hx=>absurd hx.1 hg) (fun i hi=>hi.app _) (fun i hi=>hi)
    .rcases hx with hx | hx
     .exact Nat.lt_of_lt_of_le (la x hx) gu.size
     .exact hx.2
    .rcases h with h | h
     .exact (lc x hx).2 h
     .have:x < (w.at d).heap.size:=(lc x hx).1;omega
   .obtain ⟨k,g',hk,hstp,hq⟩:=leaver (el i g hp hi) hg;have hi0:(i == 0)=false:=by simp;omega
    have hsz:((gs.map (woken P g g' (w.at d))).setIfInBounds i g').size=gs.size:=by simp
    have hrun:=runT_crowd_go (P:=P) (sl:=sl') hi (show stepG P (i == 0) g (w.at d)=_ by rw [hi0];exact hstp (w.at d));refine AloneTo.step (hst.trans hrun) hsz ?_;rw [app_none];refine ihM _ (by rw [hsz,← hM];exact sum_lt (Array.getElem?_eq_some_iff.1 hi).1 hk) _ sl' t (upd q i k) (w.at d) rfl (hr.trans (ry_at _ _ _)) ?_ ?_ ti la lc (hU w (w.at d) hu (Nat.le_refl _) fun _ _=>rfl)
    .rw [get_set _ _ _ _ _ (by omega),ga,Option.map_some,woken_running hs]
    .intro j x hj hx;by_cases hji:j=i
     .subst hji;rw [get_set_same _ _ _ _ _ hi] at hx;cases hx;rw [upd_same];exact hq
     .rw [get_set _ _ _ _ _ hji] at hx;obtain ⟨y,hy,rfl⟩:=Option.map_eq_some_iff.1 hx;have:=el j y hj hy;rw [upd_ne _ _ hji]
      rwa [woken_quits this]
def RunsTo (P:Program) (Post:Value→World→Prop) (gs:Array Goroutine) (w:World) (sl:Option (Nat×Nat)) (t:Trace):Prop:=
 ∃ N last o w' t',runNT P (N+1) (crowd gs w sl) t=(.ended o w',t')∧runN P N (crowd gs w sl)=.next last∧step P last=.ended o w'∧Good P Post last o w' t'
theorem RunsTo.after {gs gs1:Array Goroutine} {w w1:World} {sl sl1:Option (Nat×Nat)} {t t1:Trace} {N:Nat} (h:runNT P N (crowd gs w sl) t=(.next (crowd gs1 w1 sl1),t1)) (k:RunsTo P Post gs1 w1 sl1 t1):RunsTo P Post gs w sl t:=by
 obtain ⟨M,last,o,w',t',h1,h2,h3,h4⟩:=k;refine ⟨N+M,last,o,w',t',?_,?_,h3,h4⟩
 .rw [Nat.add_assoc,runNT_add,h];exact h1
 .rw [runN_add,← runNT_fst P N _ t,h];exact h2
theorem RunsTo.step {gs gs1:Array Goroutine} {w w1:World} {sl sl1:Option (Nat×Nat)} {t:Trace} {ops:Array MemOp} (h:stepT P (crowd gs w sl)=(.next (crowd gs1 w1 sl1),ops)) (k:RunsTo P Post gs1 w1 sl1 (t++ops)):RunsTo P Post gs w sl t:=
 RunsTo.after (N:=1) (by rw [runNT_succ_next h];rfl) k
theorem ends_good {gs:Array Goroutine} {w':World} {t:Trace} {q:Nat→Nat} {v:Value} {m:Machine} (hm:m.gs=gs) (ht:m.rest.timers=#[]) (el:∀ (i:Nat) (g:Goroutine),0 < i→gs[i]?=some g→QuitsIn P (q i) g) {O:Set_} {N:Nat} (ti:TI t (own1 O) (fun i=>Knows t 0 i) noSet N) (hp:Post v w'):Good P Post m (.done v) w' t:=by
 refine ⟨v,rfl,hp,ti.clean,fun i g hg hne hcount=>?_,⟨fun x hx=>?_,by rw [ht];rfl⟩,fun i g hg hne=>?_⟩
 .obtain ⟨x,hx,hmem,_⟩:=hcount;obtain ⟨j,y,hj,hy0,hb⟩:=ti.kn i x hx hmem;refine ⟨j,by simp [Trace.g?,hj,hy0],?_⟩;rcases hb with rfl | hb
  .exfalso
   have:t.g? i=some 0:=by simp [Trace.g?,hj,hy0]
   rw [this] at hg;cases hg;exact hne rfl
  .exact hb
 .rw [hm] at hx;obtain ⟨j,hj⟩:=List.mem_iff_getElem?.1 hx;rw [List.getElem?_drop] at hj;exact ⟨_,(el (1+j) x (by omega) (by simpa using hj)).leaves⟩
 .rw [hm] at hg;have:=el i g (by omega) hg;refine ⟨q i,?_⟩;rw [ti.wl.deaf];exact this.hears _ 0
theorem runs_main {a:Goroutine} (har:a.status=.running) {I:World→Prop} (hI:∀ w d,I w→I (w.at d)) {Own:Nat→Set_} {C:Set_}
 (move:∀ (gs:Array Goroutine) (sl:Option (Nat×Nat)) (t:Trace) (q:Nat→Nat) (w:World),I w→gs[0]?=some a→(∀ (i:Nat) (g:Goroutine),0 < i→gs[i]?=some g→QuitsIn P (q i) g)→TI t Own (fun i=>Knows t 0 i) C w.heap.size →
  ∀ w0 sl0,stepT P (crowd gs w0 sl0)=runT P (crowd gs w sl) 0→RunsTo P Post gs w0 sl0 t) :
 ∀ (M:Nat) (gs:Array Goroutine) (sl:Option (Nat×Nat)) (t:Trace) (q:Nat→Nat) (w:World),sumTo gs.size q=M→I w→gs[0]?=some a→(∀ (i:Nat) (g:Goroutine),0 < i→gs[i]?=some g→QuitsIn P (q i) g)→TI t Own (fun i=>Knows t 0 i) C w.heap.size→RunsTo P Post gs w sl t:=by
 intro M
 induction M using Nat.strongRecOn with
 | _ M ihM=>
  intro gs sl t q w hM hi0 ga el ti;obtain ⟨i,g,d,sl',hi,hg,hst⟩:=crowd_pick (P:=P) (w:=w) (sl:=sl) (fun g hg=>by
   obtain ⟨i,hi,rfl⟩:=Array.mem_iff_getElem.1 hg;rcases Nat.eq_zero_or_pos i with rfl | hp
   .have:gs[0]=a:=by simpa [Array.getElem?_eq_getElem hi] using ga
    rw [this];exact awake_of (.inl har)
   .exact quits_awake (el i _ hp (Array.getElem?_eq_getElem hi))) ⟨0,a,ga,har⟩
  rcases Nat.eq_zero_or_pos i with rfl | hp
  .exact move gs sl' t q (w.at d) (hI _ _ hi0) ga el ti w sl hst
  .obtain ⟨k,g',hk,hstp,hq⟩:=leaver (el i g hp hi) hg;have hi1:(i == 0)=false:=by simp;omega
   have hsz:((gs.map (woken P g g' (w.at d))).setIfInBounds i g').size=gs.size:=by simp
   have hrun:=runT_crowd_go (P:=P) (sl:=sl') hi (show stepG P (i == 0) g (w.at d)=_ by rw [hi1];exact hstp (w.at d));refine RunsTo.step (hst.trans hrun) ?_;rw [app_none];refine ihM _ (by rw [hsz,← hM];exact sum_lt (Array.getElem?_eq_some_iff.1 hi).1 hk) _ sl' t (upd q i k) (w.at d) rfl (hI _ _ hi0) ?_ ?_ ti
   .rw [get_set _ _ _ _ _ (by omega),ga,Option.map_some,woken_running har]
   .intro j x hj hx;by_cases hji:j=i
    .subst hji;rw [get_set_same _ _ _ _ _ hi] at hx;cases hx;rw [upd_same];exact hq
    .rw [get_set _ _ _ _ _ hji] at hx;obtain ⟨y,hy,rfl⟩:=Option.map_eq_some_iff.1 hx;have:=el j y hj hy;rw [upd_ne _ _ hji]
     rwa [woken_quits this]
theorem go_runs {Next:Set_→Goroutine→World→Prop} (hNext:∀ {O:Set_} {a:Goroutine} {w:World},Next O a w→∀ (gs:Array Goroutine) (sl:Option (Nat×Nat)) (t:Trace) (q:Nat→Nat),gs[0]?=some a→(∀ (i:Nat) (g:Goroutine),0 < i→gs[i]?=some g→QuitsIn P (q i) g) →
 TI t (own1 O) (fun i=>Knows t 0 i) noSet w.heap.size→(∀ x,O x→x < w.heap.size)→RunsTo P Post gs w sl t)
 {O:Set_} {a:Goroutine} {w:World} (hA:∀ w1,Ry O w w1→AtGo_ P c Next O a w1) (gs:Array Goroutine) (sl:Option (Nat×Nat)) (t:Trace) (q:Nat→Nat) (ga:gs[0]?=some a) (el:∀ (i:Nat) (g:Goroutine),0 < i→gs[i]?=some g→QuitsIn P (q i) g)
 (ti:TI t (own1 O) (fun i=>Knows t 0 i) (fun x=>x=c) w.heap.size) (la:∀ x,O x→x < w.heap.size) (hcO:¬ O c) (hop:OpenAt c w):RunsTo P Post gs w sl t:=by
 refine runs_main (a:=a) (Own:=own1 O) (C:=fun x=>x=c) (hA w (Ry.refl _ _)).1 (I:=fun w1=>Ry O w w1∧OpenAt c w1∧∀ x,O x→x < w1.heap.size) (fun w1 d h=>⟨h.1.trans (ry_at _ _ _),h.2.1,h.2.2⟩) ?_ _ gs sl t q w rfl ⟨Ry.refl _ _,hop,la⟩ ga el ti;intro gs sl t q w1 hw ga el ti w0 sl0 hst;obtain ⟨_,g',child,ι,V,rs,z,hV,hsp,hM,hS⟩:=hA w1 hw.1;have hrun:=runT_crowd_spawn (P:=P) (sl:=sl) ga (show stepG P (0 == 0) a w1=_ from hsp);rw [ofEvents_none] at hrun;have hpos:0 < gs.size:=(Array.getElem?_eq_some_iff.1 ga).1;have hgs0:((gs.setIfInBounds 0 g').push child)[0]?=some g':=by
  rw [Array.getElem?_push];simp [show (0:Nat)≠gs.size by omega,hpos]
 have hgsS:((gs.setIfInBounds 0 g').push child)[gs.size]?=some child:=by
  rw [Array.getElem?_push];simp
 refine RunsTo.step (hst.trans hrun) ?_;have hcr:Cr P ((gs.setIfInBounds 0 g').push child) gs.size g' child q:=⟨hpos,hgs0,hgsS,fun i g hi hne hx=>by
  rw [Array.getElem?_push] at hx;simp only [Array.size_setIfInBounds] at hx;rw [if_neg hne,Array.getElem?_setIfInBounds_ne (by omega)] at hx;exact el i g hi hx⟩
 let ops:Trace:=#[({ g:=0,fn:=a.frame.fn,pos:=a.frame.place,act:=.go gs.size }:MemOp),{ g:=gs.size,fn:=child.frame.fn,pos:=a.frame.place,act:=.start }]
 have hops:((#[]:Array MemOp).push { g:=0,fn:=a.frame.fn,pos:=a.frame.place,act:=.go gs.size } |>.push { g:=gs.size,fn:=child.frame.fn,pos:=a.frame.place,act:=.start })=ops:=rfl;rw [hops];have hmute:∀ op∈ops,op.act.touch?=none∧∀ m,op.act=.mark m→Neutral m:=fun op hop=>by
  simp [ops] at hop;rcases hop with rfl | rfl
  .exact ⟨rfl,by simp⟩
  .exact ⟨rfl,by simp⟩
 have h5:=ti.mute (u:=ops) (Kn':=fun i=>Knows (t++ops) 0 i∨Knows (t++ops) gs.size i) (fun op hop=>(hmute op hop).1) (fun op hop=>(hmute op hop).2) fun i hi=>.inl (hi.app _)
 have hoi:OpI P c gs.size (gs.size+1) ((gs.setIfInBounds 0 g').push child) (t++ops) q w1 O noSet g' child:=
  ⟨by simp,hcr,hw.2.1,hw.2.2,fun x hx=>hx.elim,fun x _ hx=>hx,hcO,fun hx=>hx,h5.own' (fun g i a x ha hx ho=>by
   rcases ho with ho | ho
   .exact h5.own g i a x ha hx ho
   .exact ho.2.elim) fun i hi=>hi⟩
 obtain ⟨N,gs',w',sl',t',q',a',O',k1,k2,k3,k4,k5,k6,k7⟩:=open_phase hV rs O noSet g' child w1 hM hS _ sl _ q hoi;exact RunsTo.after k1 (hNext k4 gs' sl' t' q' k3 k5 k6 k7)
theorem script_runs:∀ (k:Nat) {O:Set_} {a:Goroutine} {w:World},Script_ P Post k O a w→∀ (gs:Array Goroutine) (sl:Option (Nat×Nat)) (t:Trace) (q:Nat→Nat),gs[0]?=some a→(∀ (i:Nat) (g:Goroutine),0 < i→gs[i]?=some g→QuitsIn P (q i) g) →
 TI t (own1 O) (fun i=>Knows t 0 i) noSet w.heap.size→(∀ x,O x→x < w.heap.size)→RunsTo P Post gs w sl t:=by
 have atEnd:∀ {a:Goroutine} {w:World},AtEnd_ P Post a w→∀ {gs:Array Goroutine} {sl:Option (Nat×Nat)} {t:Trace} {q:Nat→Nat} {Own:Nat→Set_},gs[0]?=some a→(∀ (i:Nat) (g:Goroutine),0 < i→gs[i]?=some g→QuitsIn P (q i) g) →
  ∀ {O:Set_},TI t (own1 O) (fun i=>Knows t 0 i) noSet w.heap.size→∀ w0 sl0,stepT P (crowd gs w0 sl0)=runT P (crowd gs w sl) 0→RunsTo P Post gs w0 sl0 t:=by
  intro a w hA gs sl t q Own ga el O ti w0 sl0 hst;obtain ⟨_,v,hend,hpost⟩:=hA;have hrun:=runT_many_ended (P:=P) (sl:=sl) ga (show stepG P (0 == 0) a w=_ from hend);rw [ofEvents_none] at hrun;have h0:=hst.trans hrun;exact ⟨0,crowd gs w0 sl0,_,_,t,by simp [runNT,h0],rfl,by simp [_root_.Go.step,h0],ends_good (gs:=gs) rfl rfl el ti hpost⟩
 intro k
 induction k with
 | zero=>
  intro O a w h gs sl t q ga el ti la;obtain ⟨N,gs',w',sl',t',q',a',O',k1,k2,k3,k4,k5,k6,k7,k8,_⟩:=alone (C:=noSet) (U:=fun _=>True) (fun O g w h=>h.1) (fun _ _ _ _ _=>trivial) h _ gs sl t q w rfl (Ry.refl _ _) ga el ti la (fun x hx=>hx.elim) trivial;refine RunsTo.after k1 ?_;exact runs_main (a:=a') (Own:=own1 O') (C:=noSet) (k4 w' (Ry.refl _ _)).1 (I:=fun w1=>Ry O' w' w1) (fun w1 d h=>h.trans (ry_at _ _ _)) (fun gs sl t q w1 hw ga el ti w0 sl0 hst=>atEnd (Own:=own1 O') (k4 w1 hw) ga el ti w0 sl0 hst) _ gs' sl' t' q' w' rfl (Ry.refl _ _) k3 k5 k6
 | succ k ih=>
  intro O a w h gs sl t q ga el ti la;obtain ⟨N,gs',w',sl',t',q',a',O',k1,k2,k3,k4,k5,k6,k7,k8,_⟩:=alone (C:=noSet) (U:=fun _=>True) (fun O g w h=>h.elim (·.1) (·.1)) (fun _ _ _ _ _=>trivial) h _ gs sl t q w rfl (Ry.refl _ _) ga el ti la (fun x hx=>hx.elim) trivial;refine RunsTo.after k1 ?_;refine runs_main (a:=a') (Own:=own1 O') (C:=noSet) ((k4 w' (Ry.refl _ _)).elim (·.1) (·.1)) (I:=fun w1=>Ry O' w' w1∧∀ x,O' x→x < w1.heap.size) (fun w1 d h=>⟨h.1.trans (ry_at _ _ _),h.2⟩) (fun gs sl t q w1 hw ga el ti w0 sl0 hst=>?_) _ gs' sl' t' q' w' rfl ⟨Ry.refl _ _,k7⟩ k3 k5 k6;rcases k4 w1 hw.1 with hE | ⟨_,g',hmk,O2,hO2,hco⟩
  .exact atEnd (Own:=own1 O') hE ga el ti w0 sl0 hst
  .have hrun:=runT_crowd_go (P:=P) (sl:=sl) ga (show stepG P (0 == 0) a' w1=_ from hmk);refine RunsTo.step (hst.trans hrun) ?_;rw [app_none];have hsz:w1.heap.size < ({ w1 with heap:=w1.heap.push (.chan 0 #[] false 0 0 false) }:World).heap.size:=by simp
   have ti2:TI t (own1 O2) (fun i=>Knows t 0 i) (fun x=>x=w1.heap.size) ({ w1 with heap:=w1.heap.push (.chan 0 #[] false 0 0 false) }:World).heap.size:=
    ⟨ti.clean,ti.wl,ti.kn,fun g i a x ha hx ho=>ti.own g i a x ha hx ⟨ho.1,hO2 x ho.2⟩,fun i a x ha hx=>Nat.lt_trans (ti.low i a x ha hx) hsz,fun i a x ha hx e=>by
     have:=ti.low i a x ha hx;omega⟩
   have el2:∀ (i:Nat) (x:Goroutine),0 < i→((gs.map (woken P a' g' { w1 with heap:=w1.heap.push (.chan 0 #[] false 0 0 false) })).setIfInBounds 0 g')[i]?=some x→QuitsIn P (q i) x:=fun i x hi hx=>by
    rw [get_set _ _ _ _ _ (by omega)] at hx;obtain ⟨y,hy,rfl⟩:=Option.map_eq_some_iff.1 hx;have:=el i y hi hy
    rwa [woken_quits this]
   obtain ⟨N2,gs2,w2,sl2,t2,q2,a2,O3,m1,m2,m3,m4,m5,m6,m7,m8,m9⟩:=alone (C:=fun x=>x=w1.heap.size) (U:=OpenAt w1.heap.size) (fun O g w h=>h.1) (fun u u' hu hsz hk=>by
    obtain ⟨k,tm,hu⟩:=hu;exact ⟨k,tm,by rw [hk _ rfl];exact hu⟩) hco _ ((gs.map (woken P a' g' { w1 with heap:=w1.heap.push (.chan 0 #[] false 0 0 false) })).setIfInBounds 0 g') sl t q _ rfl (Ry.refl _ _) (get_set_same _ _ _ _ _ ga) el2 ti2 (fun x hx=>Nat.lt_trans (hw.2 x (hO2 x hx)) hsz) (fun x hx=>⟨by rw [hx];exact hsz,fun h=>by
     have:=hw.2 x (hO2 x h);omega⟩) ⟨0,false,by simp⟩
   refine RunsTo.after m1 ?_;exact go_runs (c:=w1.heap.size) (Next:=Script_ P Post k) (fun h=>ih h) m4 gs2 sl2 t2 q2 m3 m5 m6 m7 (fun h=>(m8 _ rfl).2 h) m9
theorem script_solo {k:Nat} {O:Set_} {a:Goroutine} {w:World} (h:Script_ P Post k O a w) (la:∀ x,O x→x < w.heap.size) :
 ∃ N last o w' t',runNT P (N+1) (solo a w) #[]=(.ended o w',t')∧runN P N (solo a w)=.next last∧step P last=.ended o w'∧Good P Post last o w' t':=by
 have:=script_runs k h #[a] none #[] (fun _=>0) rfl (fun i g hi hx=>by
  have:i < 1:=by simpa using (Array.getElem?_eq_some_iff.1 hx).1
  omega) ⟨fun said=>by rintro ⟨i,j,_,⟨a,b,ha,_⟩,_⟩;simp [Trace.act?] at ha,by intro op hop;simp at hop,fun i a ha=>by simp [touchAt,Trace.act?] at ha,fun g i a x ha=>by simp [touchAt,Trace.act?] at ha,fun i a x ha=>by simp [touchAt,Trace.act?] at ha,fun i a x ha=>by simp [touchAt,Trace.act?] at ha⟩ la
 exact this
end

