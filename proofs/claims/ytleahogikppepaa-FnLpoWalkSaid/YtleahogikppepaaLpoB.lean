/- The program's path orders: arguments as bags. -/
import Derived.Test.YtleahogikppepaaLpoF
import Derived.Test.YtleahogikppepaaIntsN
namespace Go.Proofs.Ytleahogikppepaa
open Go.RowKit
set_option linter.unusedSimpArgs false
set_option linter.unusedVariables false

theorem rmv_at {b : Tm} : ∀ {l : List Tm} {k : Nat}, l[k]? = some b → (∀ (j : Nat) (a : Tm), j < k → l[j]? = some a → a ≠ b) → b ∈ l ∧ rmv b l = l.eraseIdx k
  | [], k, h, _ => by simp at h
  | a :: l, 0, h, _ => by
    have e : a = b := by simpa using h
    subst e
    exact ⟨List.mem_cons_self, by rw [rmv, if_pos rfl]; rfl⟩
  | a :: l, k + 1, h, hn => by
    have h0 := hn 0 a (by omega) rfl
    obtain ⟨h1, h2⟩ := rmv_at (l := l) (k := k) (by simpa using h) (fun j c hj hc => hn (j + 1) c (by omega) (by simpa using hc))
    exact ⟨List.mem_cons_of_mem _ h1, by rw [rmv, if_neg h0, h2]; rfl⟩
theorem bagTwo_in {left ss : List Tm} {b : Tm} (h : b ∈ left) : bagTwo left (b :: ss) = bagTwo (rmv b left) ss := by
  conv => lhs; unfold bagTwo
  rw [if_pos h]
theorem bagTwo_out {left ss : List Tm} {b : Tm} (h : ¬ b ∈ left) : bagTwo left (b :: ss) = ((bagTwo left ss).1, b :: (bagTwo left ss).2) := by
  conv => lhs; unfold bagTwo
  rw [if_neg h]
theorem map_erase {α β : Type} (f : α → β) (l : List α) (k : Nat) : (l.eraseIdx k).map f = (l.map f).eraseIdx k := by
  simp [List.eraseIdx_eq_take_drop_succ, List.map_take, List.map_drop]
/-- What is left of the bags behind the first q of the second one. -/
def BagSt (us ss : List Tm) (q : Nat) (L M : List (Tm × Nat)) : Prop := (∀ e ∈ L, us[e.2]? = some e.1) ∧ (∀ e ∈ M, ss[e.2]? = some e.1) ∧
  (bagTwo us ss).1 = (bagTwo (L.map (·.1)) (ss.drop q)).1 ∧ (bagTwo us ss).2 = M.map (·.1) ++ (bagTwo (L.map (·.1)) (ss.drop q)).2
theorem BagSt.start (us ss : List Tm) : BagSt us ss 0 us.zipIdx [] := by
  have e : us.zipIdx.map (·.1) = us := by
    apply List.ext_getElem?
    intro k
    rw [List.getElem?_map, List.getElem?_zipIdx]
    cases us[k]? <;> rfl
  refine ⟨fun x hx => ?_, (fun x hx => by cases hx), ?_, ?_⟩
  · obtain ⟨a, p⟩ := x
    obtain ⟨j, hj⟩ := List.mem_iff_getElem?.1 hx
    rw [List.getElem?_zipIdx] at hj
    cases hu : us[j]? with
    | none => rw [hu] at hj; cases hj
    | some c => rw [hu] at hj; simp at hj; rw [← hj.1, ← hj.2]; exact hu
  · rw [e, List.drop_zero]
  · rw [e, List.drop_zero]; rfl
theorem BagSt.inn {us ss : List Tm} {q k p : Nat} {b : Tm} {L M : List (Tm × Nat)} (h : BagSt us ss q L M) (hb : ss[q]? = some b) (hk : L[k]? = some (b, p)) (hn : ∀ (j : Nat) (e : Tm × Nat), j < k → L[j]? = some e → e.1 ≠ b) : BagSt us ss (q + 1) (L.eraseIdx k) M := by
  obtain ⟨h1, h2, h3, h4⟩ := h
  obtain ⟨hq, rfl⟩ := List.getElem?_eq_some_iff.1 hb
  obtain ⟨g1, g2⟩ := rmv_at (l := L.map (·.1)) (k := k) (b := ss[q]) (by rw [List.getElem?_map, hk]; rfl) (fun j a hj ha => by
    rw [List.getElem?_map] at ha
    obtain ⟨e, he, rfl⟩ := Option.map_eq_some_iff.1 ha
    exact hn j e hj he)
  have e : (L.eraseIdx k).map (·.1) = (L.map (·.1)).eraseIdx k := map_erase _ _ _
  refine ⟨fun x hx => h1 x (List.mem_of_mem_eraseIdx hx), h2, ?_, ?_⟩
  · rw [h3, List.drop_eq_getElem_cons hq, bagTwo_in g1, g2, e]
  · rw [h4, List.drop_eq_getElem_cons hq, bagTwo_in g1, g2, e]
theorem BagSt.out {us ss : List Tm} {q : Nat} {b : Tm} {L M : List (Tm × Nat)} (h : BagSt us ss q L M) (hb : ss[q]? = some b) (hn : ∀ (j : Nat) (e : Tm × Nat), L[j]? = some e → e.1 ≠ b) : BagSt us ss (q + 1) L (M ++ [(b, q)]) := by
  obtain ⟨h1, h2, h3, h4⟩ := h
  have hb' := hb
  obtain ⟨hq, rfl⟩ := List.getElem?_eq_some_iff.1 hb
  have g : ¬ ss[q] ∈ L.map (·.1) := by
    intro hm
    obtain ⟨e, he, e2⟩ := List.mem_map.1 hm
    obtain ⟨j, hj⟩ := List.mem_iff_getElem?.1 he
    exact hn j e hj e2
  refine ⟨h1, fun x hx => ?_, ?_, ?_⟩
  · rcases List.mem_append.1 hx with hx | hx
    · exact h2 x hx
    · rw [List.mem_singleton.1 hx]; exact hb'
  · rw [h3, List.drop_eq_getElem_cons hq, bagTwo_out g]
  · rw [h4, List.drop_eq_getElem_cons hq, bagTwo_out g]; simp
theorem BagSt.done {us ss : List Tm} {q : Nat} {L M : List (Tm × Nat)} (h : BagSt us ss q L M) (hq : ss.length ≤ q) : bagTwo us ss = (L.map (·.1), M.map (·.1)) := by
  obtain ⟨h1, h2, h3, h4⟩ := h
  rw [List.drop_of_length_le hq] at h3 h4
  have e : bagTwo (L.map (·.1)) [] = (L.map (·.1), []) := by unfold bagTwo; rfl
  rw [e] at h3 h4
  rw [List.append_nil] at h4
  exact Prod.ext h3 h4
/-- Where these stand. -/
def plT (i : Nat) (us : List Tm) (L : List (Tm × Nat)) : List Int := L.map fun e => ((pl i us e.2 : Nat) : Int)
theorem plT_start (i : Nat) (us : List Tm) : starts (i + 1) us = plT i us us.zipIdx := by
  apply List.ext_getElem?
  intro k
  unfold plT
  rw [List.getElem?_map, List.getElem?_zipIdx]
  by_cases hk : k < us.length
  · rw [starts_get hk, List.getElem?_eq_getElem hk]; simp [pl]
  · rw [List.getElem?_eq_none (by rw [starts_len]; omega), List.getElem?_eq_none (by omega)]; rfl
theorem plT_get {i : Nat} {us : List Tm} {L : List (Tm × Nat)} {k : Nat} {x : Int} (h : (plT i us L)[k]? = some x) : ∃ e, L[k]? = some e ∧ x = ((pl i us e.2 : Nat) : Int) := by
  unfold plT at h
  rw [List.getElem?_map] at h
  obtain ⟨e, h1, h2⟩ := Option.map_eq_some_iff.1 h
  exact ⟨e, h1, h2.symm⟩
theorem plT_erase (i : Nat) (us : List Tm) (L : List (Tm × Nat)) (k : Nat) : (plT i us L).eraseIdx k = plT i us (L.eraseIdx k) := by unfold plT; rw [map_erase]
theorem plT_len (i : Nat) (us : List Tm) (L : List (Tm × Nat)) : (plT i us L).length = L.length := by unfold plT; rw [List.length_map]
theorem plT_snoc (i : Nat) (us : List Tm) (L : List (Tm × Nat)) (b : Tm) (q : Nat) : plT i us (L ++ [(b, q)]) = plT i us L ++ [((pl i us q : Nat) : Int)] := by unfold plT; simp

set_option maxRecDepth 100000 in
set_option maxHeartbeats 1000000 in
theorem c_bagCl1 {X : LC} {p q g5 g12 : Nat} {w : World} {b : Bool} (hb : X.same p q = b) (hP : X.P) (h : X.H w) (hp : p < X.t.length) (hq : q < X.s.length) (h5 : w.cell? ⟨g5, 0, none⟩ = some (.pointer (some ⟨X.g, 0, none⟩))) (h12 : w.cell? ⟨g12, 0, none⟩ = some (.int .i64 (q : Int))) :
    Calls Try.prog 182 #[.int .i64 (p : Int), .pointer (some ⟨g5, 0, none⟩), .pointer (some ⟨g12, 0, none⟩)] w fun e w' => e = .returned (.bool b) ∧ Ext w w' := by
  have HS := Lib.hid (c_same' hb hP h hp hq)
  clear hb hP h hp hq
  go_enter Try.func182, Try.ntmps182
  go_wp2_with fail
  (with_reducible refine HS.out.mono ?_)
  rintro e w1 ⟨rfl, hE1⟩
  go_wp2
  go_ret
  exact ⟨rfl, hE1⟩
set_option maxRecDepth 100000 in
set_option maxHeartbeats 1000000 in
theorem c_bagCl2 {X : LC} {p q g5 g12 : Nat} {w : World} {b : Bool} (hb : decide (0 < X.W p q) = b) (hG : X.Gr p q) (h : X.H w) (h5 : w.cell? ⟨g5, 0, none⟩ = some (.pointer (some ⟨X.g, 0, none⟩))) (h12 : w.cell? ⟨g12, 0, none⟩ = some (.int .i64 (q : Int))) :
    Calls Try.prog 185 #[.int .i64 (p : Int), .pointer (some ⟨g5, 0, none⟩), .pointer (some ⟨g12, 0, none⟩)] w (X.Tell p q w (.bool b)) := by
  have HS := Lib.hid (hG.out hb h)
  clear hb hG h
  go_enter Try.func185, Try.ntmps185
  go_wp2_with fail
  (with_reducible refine HS.out.mono ?_)
  rintro e w1 ⟨rfl, hH1, hO1⟩
  have HH1 := Lib.hid hH1
  clear hH1
  go_wp2
  go_ret
  exact ⟨rfl, HH1.out, hO1⟩
theorem HoN.ext {w w' : World} {B n c : Nat} {A : Option Addr} {xs : List Int} (h : HoN w B A n c xs) (k : Ext w w') : HoN w' B A n c xs := by
  have h' := h
  obtain ⟨_, _, _, _, h3⟩ := h'
  refine h.heap k.size fun g e => ?_
  rcases h3 with ⟨h0, _⟩ | ⟨b, h1, _, h2, _⟩
  · rw [h0] at e; cases e
  · rw [h1] at e; cases e; exact k.block _ h2
theorem anyG_plT {X : LC} (hP : X.P) {i j : Nat} {x y : Int} {us ss : List Tm} (hA : X.At i j x us y ss) {L : List (Tm × Nat)} (hL : ∀ e ∈ L, us[e.2]? = some e.1) {q : Nat} {b : Tm} (hb : ss[q]? = some b) :
    (plT i us L).any (fun x => decide (0 < X.W x.toNat (pl j ss q))) = anyG X.V (L.map (·.1)) b := by
  unfold plT anyG
  rw [List.any_map, List.any_map]
  refine any_congr fun e he => ?_
  show decide (0 < X.W (pl i us e.2) (pl j ss q)) = decide (0 < X.V e.1 b)
  rw [(hA.both hP (hL e he) hb).2.1]
/-- A block is this one's alone. -/
def ApartA (A B : Option Addr) : Prop := ∀ b c, A = some ⟨b, 0, none⟩ → B = some ⟨c, 0, none⟩ → b ≠ c
set_option maxRecDepth 100000 in
set_option maxHeartbeats 4000000 in
theorem c_bagArgs (X : LC) : X.Bags := by
  intro i j x y us ss A B cA cB w hP h hA hl hm ho hAg hBg ih
  have hul := hm.le
  have hus3 : us.length ≤ 3 := arI_le hP.sig (Ok_node.1 (hA.ok hP).1).1
  have hss3 : ss.length ≤ 3 := by omega
  have HLT := Lib.hid h.lt
  have HM := Lib.hid hm
  rw [plT_start] at HM
  have HH := Lib.hid h
  have HA := Lib.hid hA
  have HL := Lib.hid hl
  have HO := Lib.hid ho
  have HAG := Lib.hid hAg
  have HBG := Lib.hid hBg
  have HI := Lib.hid ih
  have HP := Lib.hid hP
  have he1 : ∀ (args : Array Value) (w : World), (callFunc 182 args).run Try.prog w = .ok (.enter 182 args) w := enters_of Try.func182 (by kernel_rfl) rfl
  have he2 : ∀ (args : Array Value) (w : World), (callFunc 185 args).run Try.prog w = .ok (.enter 185 args) w := enters_of Try.func185 (by kernel_rfl) rfl
  have HE1 := Lib.hid he1
  have HE2 := Lib.hid he2
  obtain ⟨i0, hii, hiz, his, hib⟩ := info_parts int_info
  clear h hA hl hm ho hAg hBg ih hP he1 he2
  go_enter Try.func179, Try.ntmps179
  go_wp2_with fail
  obtain ⟨wo, hwo⟩ : ∃ wo, wo = (w.alloc (.cells #[] 109)).alloc (.cells #[.pointer (some ⟨X.g, 0, none⟩)] 142) := ⟨_, rfl⟩
  have hEo : Ext w wo := by rw [hwo]; exact extX
  have h5 : wo.cell? ⟨w.heap.size + 1, 0, none⟩ = some (.pointer (some ⟨X.g, 0, none⟩)) := by rw [hwo]; simp [go_sem]
  have HWO := Lib.hid hwo
  rw [← hwo]
  clear hwo
  (with_reducible refine (c_cloneN (RI.ext HM.out hEo)).mono ?_)
  rintro e w1 ⟨A1, n1, c1, rfl, hO1, hE1⟩
  have hn1 : n1 ≤ 3 := by rw [← hO1.len, plT_len, List.length_zipIdx]; exact hus3
  have HO1 := Lib.hid hO1.ho
  have hszo : w.heap.size + 2 ≤ wo.heap.size := by rw [HWO.out]; simp [go_sem]
  clear hO1
  go_wp2_with fail
  go_loopw [9, 10, 20] (fun lv rv iv wr => ∃ q : Nat, iv = .int .i64 q ∧ q ≤ ss.length ∧ (∃ A n c A' n' c', lv = .slice A n c ∧ n ≤ 3 ∧ rv = .slice A' n' c' ∧ n' ≤ q ∧ Hid (ApartA A A' ∧ ∃ L M, BagSt us ss q L M ∧ HoN wr wo.heap.size A n c (plT i us L) ∧ OwN wr wo.heap.size A' n' c' (plT j ss M))) ∧ Ext wo wr) (fun _ _ iv _ => ss.length - (intOf iv).toNat)
  case atStart => exact ⟨0, rfl, Nat.zero_le _, ⟨A1, n1, c1, none, 0, 0, rfl, hn1, rfl, Nat.le_refl _, Lib.hid ⟨(fun b c _ h => by cases h), us.zipIdx, [], BagSt.start us ss, HO1.out, ⟨by omega, by simp [plT]; exact World.ownsRow_nil _ _ _ _⟩⟩⟩, hE1⟩
  case round =>
    obtain ⟨q, rfl, hq, ⟨A2, n2, c2, A3, n3, c3, rfl, hn2, rfl, hn3, hSt⟩, hE⟩ := hrel
    obtain ⟨hap, L, M, hst, hho, how⟩ := hSt.out
    have HST := Lib.hid hst
    have HHO := Lib.hid hho
    have HOW := Lib.hid how
    have HAP := Lib.hid hap
    have hEw : Ext w wr := Ext.trans hEo hE
    have h5r := Ext.keep hE h5
    have HHr := Lib.hid (HH.out.ext hEw)
    clear hst hho how hap hSt
    by_cases hlt : q < ss.length
    · obtain ⟨b, hb⟩ : ∃ b, ss[q]? = some b := ⟨ss[q], List.getElem?_eq_getElem hlt⟩
      obtain ⟨b3, o3, rfl, hc3⟩ := RI.starts_at (HO.out.ext hEw) hlt
      have hq1 : (q : Int) < (ss.length : Int) := by omega
      have hq0 : (0 : Int) ≤ (q : Int) := by omega
      have HBK := Lib.hid hb
      obtain ⟨P2, hP2⟩ : ∃ P2, P2 = pl j ss q := ⟨_, rfl⟩
      rw [← hP2] at hc3
      have HP2 := Lib.hid hP2
      clear hb hP2
      go_wp2_with fail
      obtain ⟨wq, hwq⟩ : ∃ wq, wq = wr.alloc (.cells #[.int .i64 (P2 : Int)] 3) := ⟨_, rfl⟩
      have hEq : Ext wr wq := by rw [hwq]; exact extX
      have h12 : wq.cell? ⟨wr.heap.size, 0, none⟩ = some (.int .i64 (P2 : Int)) := by rw [hwq]; simp [go_sem]
      rw [← hwq]
      clear hwq
      have h5q := Ext.keep hEq h5r
      have HHq := Lib.hid (HHr.out.ext hEq)
      have HHOq := Lib.hid (HHO.out.ext hEq)
      have HCL : Hid (∀ (k : Nat) (x : Int), (plT i us L)[k]? = some x → ∀ wr', Ext wq wr' → Calls Try.prog 182 (#[.int .i64 x] ++ #[.pointer (some ⟨w.heap.size + 1, 0, none⟩), .pointer (some ⟨wr.heap.size, 0, none⟩)]) wr' (fun e w' => e = .returned (.bool (X.same x.toNat P2)) ∧ Ext wq w')) := Lib.hid (by
        intro k x hx wr' hE'
        obtain ⟨e, he, rfl⟩ := plT_get hx
        have hb2 := HA.out.both HP.out (HST.out.1 e (List.mem_of_getElem? he)) HBK.out
        rw [← HP2.out] at hb2
        rw [Int.toNat_natCast]
        exact (c_bagCl1 rfl HP.out (HHq.out.ext hE') hb2.1.1 hb2.1.2 (Ext.keep hE' h5q) (Ext.keep hE' h12)).mono fun e2 w2 h => ⟨h.1, hE'.trans h.2⟩)
      have HEQ : Hid (∀ e ∈ L, X.same (pl i us e.2) P2 = true ↔ e.1 = b) := Lib.hid (by
        intro e he
        have hb2 := HA.out.both HP.out (HST.out.1 e he) HBK.out
        rw [← HP2.out] at hb2
        rw [hb2.2.2, decide_eq_true_eq]
        exact flat_eq (OkL_iff.1 (Ok_node.1 (HA.out.ok HP.out).1).2 e.1 (List.mem_of_getElem? (HST.out.1 e he))) (OkL_iff.1 (Ok_node.1 (HA.out.ok HP.out).2).2 b (List.mem_of_getElem? HBK.out)))
      (with_reducible refine (c_indexFuncN (xs := plT i us L) (p := fun x => X.same x.toNat P2) (S := fun w' => Ext wq w') HE1.out (Ext.refl _) (fun wr' h => HHOq.out.ri.ext h) HCL.out).mono ?_)
      rintro e w5 ⟨r, rfl, hI, hE5⟩
      have hE5w : Ext wo w5 := Ext.trans hE (Ext.trans hEq hE5)
      have HHO5 := Lib.hid (HHOq.out.ext hE5)
      have HOW5 := Lib.hid (HOW.out.ext (Ext.trans hEq hE5))
      have h125 := Ext.keep hE5 h12
      rcases hI with ⟨k, x, rfl, hx, hpx, hno⟩ | ⟨rfl, hno⟩
      · obtain ⟨⟨b', p⟩, he, rfl⟩ := plT_get hx
        have hbb : b' = b := (HEQ.out (b', p) (List.mem_of_getElem? he)).1 hpx
        subst hbb
        have HN := Lib.hid (HST.out.inn HBK.out he fun m e hm hme => fun e1 => by
          have h1 := (HEQ.out e (List.mem_of_getElem? hme)).2 e1
          have h2 : X.same (pl i us e.2) P2 = false := hno m ((pl i us e.2 : Nat) : Int) hm (by unfold plT; rw [List.getElem?_map, hme]; rfl)
          rw [h1] at h2
          cases h2)
        have hkn : k < n2 := by
          have h1 := (List.getElem?_eq_some_iff.1 hx).1
          rw [HHO.out.1] at h1; exact h1
        obtain ⟨b2, rfl, hb2, hb2l⟩ := HHO5.out.bd (by omega)
        have hk0 : (0 : Int) ≤ (k : Int) := by omega
        have hk3 : (k : Int) ≤ 3 := by omega
        clear hx hpx hno he
        go_wp2_with fail
        (with_reducible refine (c_deleteN HHO5.out hkn).mono ?_)
        rintro e w6 ⟨rfl, hho6, hO6⟩
        have HHO6 := Lib.hid hho6
        have HO6 := Lib.hid hO6
        have hE6w : Ext wo w6 := Only.ext hO6 hE5w hb2
        have HOW6 := Lib.hid (HOW5.out.heap (w' := w6) fun g e => hO6.block g (HOW5.out.bd _ _ _ e).2 (fun e2 => HAP.out b2 g rfl e (by injection e2 with e2; exact e2.symm)))
        clear hho6 hO6
        go_wp2
        go_roundw
        case rel => exact ⟨q + 1, by go_num, by omega, ⟨_, _, _, _, _, _, rfl, by omega, rfl, by omega, Lib.hid ⟨HAP.out, L.eraseIdx k, M, HN.out, by rw [← plT_erase]; exact HHO6.out, HOW6.out⟩⟩, hE6w⟩
        case measure => simp only [intOf]; omega
      · have HN := Lib.hid (HST.out.out HBK.out fun m e hme => fun e1 => by
          have h1 := (HEQ.out e (List.mem_of_getElem? hme)).2 e1
          have h2 : X.same (pl i us e.2) P2 = false := hno m ((pl i us e.2 : Nat) : Int) (by unfold plT; rw [List.getElem?_map, hme]; rfl)
          rw [h1] at h2
          cases h2)
        have hsz5 := hE5w.size
        have hwr5 : wr.heap.size < w5.heap.size := World.block_lt_of_cell? w5 _ h125
        clear hno
        go_wp2_with (at_builtin; go_loud (refine wpList_append_lies _ rfl (.tmp 34) (.tmp 36) 153 rfl wo.heap.size 3 i0 (.int .i64 0) 1 8 Try.underlying153 hii hiz his hib rfl (by decide) _ _ _ rfl (OwN.alloc HOW5.out _).2 ⟨w5.heap.size, 0, none⟩ 1 1 [.int .i64 (P2 : Int)] rfl rfl (one_cells _ _ _) (one_one _) (by decide) (by unfold maxLen; omega) (by omega) (by go_size) _ rfl ?_))
        intro g6 cap w6 hown hg hat hltg
        have hE6w : Ext wo w6 := Ext.grown (hE5w.alloc _) hg (fun k hk => HOW5.out.ob k hk)
        have HOW6 := Lib.hid (show OwN w6 wo.heap.size (some ⟨g6, 0, none⟩) (n3 + 1) cap (plT j ss (M ++ [(b, q)])) from ⟨by omega, by rw [plT_snoc, ← HP2.out, List.map_append]; exact hown⟩)
        have hgne : Hid (∀ b2, A2 = some ⟨b2, 0, none⟩ → b2 ≠ g6 ∧ b2 < w5.heap.size ∧ some b2 ≠ (Value.slice A3 n3 c3).ownBlock) := Lib.hid (by
          rintro b2 rfl
          have h1 : b2 < w5.heap.size := by
            have h0 := HHO5.out
            obtain ⟨_, _, _, _, h3⟩ := h0
            rcases h3 with ⟨h3, _⟩ | ⟨b', h3, _, h4, _⟩
            · cases h3
            · cases h3; exact h4
          have h2 : some b2 ≠ (Value.slice A3 n3 c3).ownBlock := by
            intro e2
            cases A3 with
            | none => cases e2
            | some p3 =>
              obtain ⟨g', o', s'⟩ := p3
              rcases HOW5.out.form with ⟨h0, _⟩ | ⟨g'', h0, _⟩
              · cases h0
              · cases h0
                injection e2 with e2
                exact HAP.out b2 g' rfl rfl e2
          refine ⟨?_, h1, h2⟩
          rintro rfl
          rcases hat with e2 | e2
          · exact h2 e2.symm
          · omega)
        have HHO6 := Lib.hid (HHO5.out.heap (w' := w6) (by have := hg.size; simp [go_sem] at this; omega) fun b2 e => (hg.block b2 (by have := (hgne.out b2 e).2.1; simp [go_sem]; omega) (hgne.out b2 e).2.2).trans ((Ext.alloc (Ext.refl w5) _).block b2 (hgne.out b2 e).2.1))
        have HAP6 := Lib.hid (show ApartA A2 (some ⟨g6, 0, none⟩) from fun b2 c e1 e2 => by cases e2; exact (hgne.out b2 e1).1)
        clear hown hg hat hgne
        go_wp2
        go_roundw
        case rel => exact ⟨q + 1, by go_num, by omega, ⟨_, _, _, _, _, _, rfl, by omega, rfl, by omega, Lib.hid ⟨HAP6.out, L, M ++ [(b, q)], HN.out, HHO6.out, HOW6.out⟩⟩, hE6w⟩
        case measure => simp only [intOf]; omega
    · have HD := Lib.hid (HST.out.done (by omega))
      have hng : X.g < wo.heap.size := by have := HLT.out; omega
      have hLl : L.length = n2 := by rw [← plT_len i us L]; exact HHO.out.1
      have hMl : M.length = n3 := by rw [← plT_len j ss M]; exact HOW.out.len
      have HLL := Lib.hid hLl
      have HML := Lib.hid hMl
      have HAG2 := Lib.hid (show ∀ b o s, A2 = some ⟨b, o, s⟩ → 0 < n2 → b ≠ X.g from fun b o s e hn => by
        obtain ⟨b2, e2, h2, _⟩ := HHO.out.bd hn
        rw [e] at e2; cases e2; omega)
      have HAG3 := Lib.hid (show ∀ b o s, A3 = some ⟨b, o, s⟩ → 0 < n3 → b ≠ X.g from fun b o s e _ => by have := HOW.out.bd b o s e; omega)
      have HR2 := Lib.hid HHO.out.ri
      have HR3 := Lib.hid HOW.out.ri
      have hn3m : n3 ≤ 4194304 := by omega
      have h5g : w.heap.size + 1 ≠ X.g := by have := HLT.out; omega
      clear hLl hMl
      go_wp2_with fail
      obtain ⟨wl, hwl⟩ : ∃ wl, wl = wr := ⟨_, rfl⟩
      have hEl : Ext wo wl := by rw [hwl]; exact hE
      have HHl : Hid (X.H wl) := by rw [hwl]; exact HHr
      have HR2l : Hid (RI wl A2 n2 (plT i us L)) := by rw [hwl]; exact HR2
      have HR3l : Hid (RI wl A3 n3 (plT j ss M)) := by rw [hwl]; exact HR3
      have h5l : wl.cell? ⟨w.heap.size + 1, 0, none⟩ = some (.pointer (some ⟨X.g, 0, none⟩)) := by rw [hwl]; exact h5r
      have hEwl : Ext w wl := Ext.trans hEo hEl
      rw [← hwl]
      clear hwl HHr HR2 HR3 h5r hE hEw HHO HOW
      go_loopw [41] (fun iv wr => ∃ m : Nat, iv = .int .i64 m ∧ m ≤ n3 ∧ Hid (∀ (p : Nat) (e : Tm × Nat), p < m → M[p]? = some e → anyG X.V (L.map (·.1)) e.1 = true) ∧ Hid (X.H wr) ∧ Hid (Only wl wr X.g)) (fun iv _ => n3 - (intOf iv).toNat)
      case atStart => exact ⟨0, rfl, Nat.zero_le _, Lib.hid (fun p e hp => by omega), HHl, Lib.hid (Only.refl _ _)⟩
      case round =>
        obtain ⟨m, rfl, hm, hall, hHm, hOm⟩ := hrel
        by_cases hlm : m < n3
        · obtain ⟨b3, o3, z, rfl, hz, hcz⟩ := RI.at_ (HR3l.out.only hOm.out HAG3.out) hlm
          obtain ⟨⟨b, q3⟩, he, rfl⟩ := plT_get hz
          have hbk := HST.out.2.1 _ (List.mem_of_getElem? he)
          have hq3 : q3 < ss.length := (List.getElem?_eq_some_iff.1 hbk).1
          have HME := Lib.hid he
          have HBK := Lib.hid hbk
          have hm1 : (m : Int) < (n3 : Int) := by omega
          have hm0 : (0 : Int) ≤ (m : Int) := by omega
          obtain ⟨P3, hP3⟩ : ∃ P3, P3 = pl j ss q3 := ⟨_, rfl⟩
          have hcz' : wr.cell? ⟨b3, o3 + m, none⟩ = some (.int .i64 (P3 : Int)) := by rw [hP3]; exact hcz
          have HP3 := Lib.hid hP3
          have h5m := Only.keep hOm.out h5g h5l
          clear hz he hbk hcz hP3
          go_wp2_with fail
          obtain ⟨wq, hwq⟩ : ∃ wq, wq = wr.alloc (.cells #[.int .i64 (P3 : Int)] 3) := ⟨_, rfl⟩
          have hEq : Ext wr wq := by rw [hwq]; exact extX
          have h12 : wq.cell? ⟨wr.heap.size, 0, none⟩ = some (.int .i64 (P3 : Int)) := by rw [hwq]; simp [go_sem]
          have h12g : wr.heap.size ≠ X.g := by have := hOm.out.size; have := hEl.size; omega
          rw [← hwq]
          clear hwq
          have h5q := Ext.keep hEq h5m
          have HHq := Lib.hid (hHm.out.ext hEq)
          have HR2q := Lib.hid ((HR2l.out.only hOm.out HAG2.out).ext hEq)
          have HCL : Hid (∀ (k : Nat) (x : Int), (plT i us L)[k]? = some x → ∀ wr', (X.H wr' ∧ Only wq wr' X.g) → Calls Try.prog 185 (#[.int .i64 x] ++ #[.pointer (some ⟨w.heap.size + 1, 0, none⟩), .pointer (some ⟨wr.heap.size, 0, none⟩)]) wr' (fun e w' => e = .returned (.bool (decide (0 < X.W x.toNat P3))) ∧ (X.H w' ∧ Only wq w' X.g))) := Lib.hid (by
            intro k x hx wr' hE'
            obtain ⟨e, he, rfl⟩ := plT_get hx
            have hp : e.2 < us.length := (List.getElem?_eq_some_iff.1 (HST.out.1 e (List.mem_of_getElem? he))).1
            have hG := HI.out e.2 q3 hp hq3
            rw [← HP3.out] at hG
            rw [Int.toNat_natCast]
            exact (c_bagCl2 rfl hG hE'.1 (Only.keep hE'.2 h5g h5q) (Only.keep hE'.2 h12g h12)).mono fun e2 w2 h => ⟨h.1, h.2.1, hE'.2.trans h.2.2⟩)
          have HANY := Lib.hid (anyG_plT HP.out HA.out HST.out.1 HBK.out)
          rw [← HP3.out] at HANY
          have HCF := Lib.hid (c_containsFuncN (c := c2) (p := fun x => decide (0 < X.W x.toNat P3)) (S := fun w' => X.H w' ∧ Only wq w' X.g) HE2.out ⟨HHq.out, Only.refl _ _⟩ (fun wr' h => HR2q.out.only h.2 HAG2.out) HCL.out)
          rw [HANY.out] at HCF
          cases hany : anyG X.V (L.map (·.1)) b with
          | true =>
            have HN := Lib.hid (show ∀ (p : Nat) (e : Tm × Nat), p < m + 1 → M[p]? = some e → anyG X.V (L.map (·.1)) e.1 = true from fun p e hp he => by
              rcases Nat.lt_or_ge p m with h | h
              · exact hall.out p e h he
              · obtain rfl : p = m := by omega
                rw [HME.out] at he; cases he; exact hany)
            rw [hany] at HCF
            clear hany
            (with_reducible refine HCF.out.mono ?_)
            rintro e w5 ⟨rfl, hH5, hO5⟩
            have HH5 := Lib.hid hH5
            have HO5 := Lib.hid hO5
            clear hH5 hO5
            go_wp2
            go_roundw
            case rel => exact ⟨m + 1, by go_num, by omega, HN, HH5, Lib.hid (hOm.out.trans ((Only.of_ext hEq _).trans HO5.out))⟩
            case measure => simp only [intOf]; omega
          | false =>
            have HR := Lib.hid (show bagG X.V us ss = false by
              unfold bagG; rw [HD.out]
              rw [show allG X.V (L.map (·.1)) (M.map (·.1)) = false from by
                unfold allG; rw [List.all_eq_false]
                exact ⟨b, List.mem_map.2 ⟨(b, q3), List.mem_of_getElem? HME.out, rfl⟩, by rw [hany]; decide⟩]
              rfl)
            rw [hany] at HCF
            clear hany
            (with_reducible refine HCF.out.mono ?_)
            rintro e w5 ⟨rfl, hH5, hO5⟩
            have HH5 := Lib.hid hH5
            clear hH5
            go_wp2
            go_ret
            exact ⟨ret_bool HR.out.symm, HH5.out, (Only.of_ext hEwl _).trans (hOm.out.trans ((Only.of_ext hEq _).trans hO5))⟩
        · have hmn : m = n3 := by omega
          have HR := Lib.hid (show bagG X.V us ss = decide (0 < n2) by
            unfold bagG; rw [HD.out]
            rw [show allG X.V (L.map (·.1)) (M.map (·.1)) = true from by
              unfold allG; rw [List.all_eq_true]
              intro b hb
              obtain ⟨e, he, rfl⟩ := List.mem_map.1 hb
              obtain ⟨p, hp, e2⟩ := List.mem_iff_getElem.1 he
              exact hall.out p e (by rw [hmn, ← HML.out]; exact hp) (by rw [List.getElem?_eq_getElem hp, e2])]
            rw [Bool.true_and, List.length_map, HLL.out])
          go_wp2
          go_ret
          exact ⟨ret_bool HR.out.symm, hHm.out, (Only.of_ext hEwl _).trans hOm.out⟩

end Go.Proofs.Ytleahogikppepaa
