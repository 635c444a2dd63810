/- CappedOf of both. -/
import Derived.Test.YtempekmenkeigaaCapS
import Derived.Test.YtempekmenkeigaaDepO
import Derived.Test.YtempekmenkeigaaTermOk
-- rd: RdSyK
namespace Go.Proofs.Ytempekmenkeigaa
open Go.RowKit
set_option linter.unusedSimpArgs false
set_option linter.unusedVariables false

theorem capV_t {s : Sy} {t : List Int} (h : capOk s t = true) : capV s t = capO s t := by unfold capV; rw [if_pos h]
theorem capV_f {s : Sy} {t : List Int} (h : capOk s t = false) : capV s t = [] := by unfold capV; rw [if_neg (by rw [h]; simp)]
theorem capGo_len (s : Sy) (t : List Int) : ∀ n p f, (capGo s t n p f).1.length ≤ n
  | 0, _, _ => Nat.le_refl _
  | n + 1, p, f => by
    cases hx : t[p]? with
    | none => unfold capGo; rw [hx]; simp
    | some x =>
      cases hf : freshAt s p x with
      | true => rw [capGo_fresh hx hf]; have := capGo_len s t n (p + (subT s.ar t p).flat.length) (f + 1); simp only [List.length_cons]; omega
      | false => rw [capGo_kept hx hf]; have := capGo_len s t n (p + 1) f; simp only [List.length_cons]; omega
theorem capO_len (s : Sy) (t : List Int) : (capO s t).length ≤ t.length := capGo_len s t _ _ _
theorem OwI.none_ (w : World) (D : Nat) : OwI w D none 0 0 [] := ⟨by omega, World.ownsRow_nil _ _ _ _⟩
theorem c_iTermOk' {v0 v1 : Value} {ar t : List Int} {w : World} {b : Bool} (hb : termOk ar t = b) (h0 : RdSig w v0 ar) (h1 : RdI w v1 t) :
    Calls Try.prog 100 #[v0, v1] w fun e w' => e = .returned (.bool b) ∧ Ext w w' :=
  (c_iTermOk h0 h1).mono fun _ _ ⟨he, hw⟩ => ⟨he.trans (ret_bool hb), hw⟩
theorem c_sTermOk' {v0 v1 : Value} {ar t : List Int} {w : World} {b : Bool} (hb : termOk ar t = b) (h0 : RdSig w v0 ar) (h1 : RdI w v1 t) :
    Calls Try.prog 43 #[v0, v1] w fun e w' => e = .returned (.bool b) ∧ Ext w w' :=
  (c_sTermOk h0 h1).mono fun _ _ ⟨he, hw⟩ => ⟨he.trans (ret_bool hb), hw⟩
def NewCp (w : World) (s : Sy) (t : List Int) (e : Ending) (w' : World) : Prop := ∃ A n c, e = .returned (.tuple #[.slice A n c, .bool (capOk s t)]) ∧ OwI w' w.heap.size A n c (capV s t) ∧ Ext w w'
def NewCq (w : World) (s : Sy) (t : List Int) (e : Ending) (w' : World) : Prop := ∃ A n c, e = .returned (.tuple #[.slice A n c, .bool (capOk s t)]) ∧ RI w' A n (capV s t) ∧ Ext w w'
def NewCr (w : World) (s : Sy) (t : List Int) (e : Ending) (w' : World) : Prop := ∃ A n c, e = .returned (.tuple #[.slice A n c, .bool (capOk s t)]) ∧ RI w' A n (capV s t) ∧ Ext w w' ∧ (n ≤ c ∧ c ≤ 9223372036854775807)
set_option maxRecDepth 100000 in
set_option maxHeartbeats 4000000 in
theorem c_sCappedC {v0 v1 : Value} {s : Sy} {t : List Int} {w : World} (h0 : RdSyC w v0 s) (h1 : RdIc w v1 t) :
    Calls Try.prog 75 #[v0, v1] w (NewCr w s t) := by
  obtain ⟨A, n, c, B, m, d, rfl, ha, hb⟩ := h0
  obtain ⟨D, q, l, rfl, hcap, hd⟩ := h1
  have HA := Lib.hid ha
  have HB := Lib.hid hb
  have HD := Lib.hid hd
  have HC := Lib.hid hcap
  clear ha hb hd hcap
  cases hs : sysOk s with
  | false =>
    have HV := Lib.hid (show capOk s t = false by unfold capOk; rw [hs]; rfl)
    have HSO := Lib.hid hs
    clear hs
    go_enter Try.func75, Try.ntmps75
    go_wp2_with (go_at_call 39; (with_reducible refine (c_sSystemOk' (s := s) HSO.out (RdSyK.mk (RI.ext HA.out (by exact extX)) (RR.ext HB.out (by exact extX)))).mono ?_); rintro e w1 ⟨rfl, hE1⟩; have hz1 := sz_of hE1; (try simp only [World.size_alloc, World.size_setCell, World.size_drew] at hz1); obtain ⟨hc1, hf1⟩ := bcell hE1; (try have hq1_0 : w.heap.size < w1.heap.size := by omega); (try have hq1_1 : w.heap.size + 1 < w1.heap.size := by omega); (try have hq1_2 : w.heap.size + 1 + 1 < w1.heap.size := by omega); (try have hq1_3 : w.heap.size + 1 + 1 + 1 < w1.heap.size := by omega); (try have hq1_4 : w.heap.size + 1 + 1 + 1 + 1 < w1.heap.size := by omega); (try have hq1_5 : w.heap.size + 1 + 1 + 1 + 1 + 1 < w1.heap.size := by omega))
    go_ret2
    refine ⟨_, 0, 0, by rw [HV.out]; rfl, ?_, by exact extX, ⟨Nat.le_refl _, by decide⟩⟩
    rw [capV_f HV.out]; exact RI.nil _ _
  | true =>
    have HSO := Lib.hid hs
    have HS := Lib.hid (sysOk_iff.1 hs)
    cases ht : termOk s.ar t with
    | false =>
      have HV := Lib.hid (show capOk s t = false by unfold capOk; rw [ht]; simp)
      have HTO := Lib.hid ht
      clear hs ht
      go_enter Try.func75, Try.ntmps75
      go_wp2_with (first
        | (go_at_call 39; (with_reducible refine (c_sSystemOk' (s := s) HSO.out (RdSyK.mk (RI.ext HA.out (by exact extX)) (RR.ext HB.out (by exact extX)))).mono ?_); rintro e w1 ⟨rfl, hE1⟩; have hz1 := sz_of hE1; (try simp only [World.size_alloc, World.size_setCell, World.size_drew] at hz1); obtain ⟨hc1, hf1⟩ := bcell hE1; (try have hq1_0 : w.heap.size < w1.heap.size := by omega); (try have hq1_1 : w.heap.size + 1 < w1.heap.size := by omega); (try have hq1_2 : w.heap.size + 1 + 1 < w1.heap.size := by omega); (try have hq1_3 : w.heap.size + 1 + 1 + 1 < w1.heap.size := by omega); (try have hq1_4 : w.heap.size + 1 + 1 + 1 + 1 < w1.heap.size := by omega); (try have hq1_5 : w.heap.size + 1 + 1 + 1 + 1 + 1 < w1.heap.size := by omega))
        | (go_at_call 43; (with_reducible refine (c_sTermOk' (t := t) HTO.out (RdSig.mk (RI.ext HA.out (by exact extX))) (RdI.mk (RI.ext HD.out (by exact extX)))).mono ?_); rintro e w2 ⟨rfl, hE2⟩; have hz2 := sz_of hE2; (try simp only [World.size_alloc, World.size_setCell, World.size_drew] at hz2); obtain ⟨hc2, hf2⟩ := bcell hE2; (try have hq2_0 : w.heap.size < w2.heap.size := by omega); (try have hq2_1 : w.heap.size + 1 < w2.heap.size := by omega); (try have hq2_2 : w.heap.size + 1 + 1 < w2.heap.size := by omega); (try have hq2_3 : w.heap.size + 1 + 1 + 1 < w2.heap.size := by omega); (try have hq2_4 : w.heap.size + 1 + 1 + 1 + 1 < w2.heap.size := by omega); (try have hq2_5 : w.heap.size + 1 + 1 + 1 + 1 + 1 < w2.heap.size := by omega); (try have hx2_1 : w1.heap.size < w2.heap.size := by omega)))
      go_ret2
      refine ⟨_, 0, 0, by rw [HV.out]; rfl, ?_, by exact extX, ⟨Nat.le_refl _, by decide⟩⟩
      rw [capV_f HV.out]; exact RI.nil _ _
    | true =>
      have HTO := Lib.hid ht
      have HT := Lib.hid (termOk_iff.1 ht)
      have HT60 := Lib.hid (show (capO s t).length ≤ 60 from Nat.le_trans (capO_len s t) HT.out.2.1.2)
      have HNG := Lib.hid (show ng (capO s t) = (List.range (capF s t)).map fun j : Nat => -((j : Int) + 1) from capO_neg s t)
      by_cases hf : capF s t ≤ 24
      · have HV := Lib.hid (show capOk s t = true by unfold capOk; rw [hs, ht]; simpa using hf)
        have hfi : ((capF s t : Nat) : Int) ≤ 24 := by omega
        obtain ⟨F, hF⟩ : ∃ F, F = capF s t := ⟨_, rfl⟩
        rw [← hF] at hf hfi
        have HFF := Lib.hid hF
        clear hs ht hF
        go_enter Try.func75, Try.ntmps75
        go_wp2_with (first
        | (go_at_call 39; (with_reducible refine (c_sSystemOk' (s := s) HSO.out (RdSyK.mk (RI.ext HA.out (by exact extX)) (RR.ext HB.out (by exact extX)))).mono ?_); rintro e w1 ⟨rfl, hE1⟩; have hz1 := sz_of hE1; (try simp only [World.size_alloc, World.size_setCell, World.size_drew] at hz1); obtain ⟨hc1, hf1⟩ := bcell hE1; (try have hq1_0 : w.heap.size < w1.heap.size := by omega); (try have hq1_1 : w.heap.size + 1 < w1.heap.size := by omega); (try have hq1_2 : w.heap.size + 1 + 1 < w1.heap.size := by omega); (try have hq1_3 : w.heap.size + 1 + 1 + 1 < w1.heap.size := by omega); (try have hq1_4 : w.heap.size + 1 + 1 + 1 + 1 < w1.heap.size := by omega); (try have hq1_5 : w.heap.size + 1 + 1 + 1 + 1 + 1 < w1.heap.size := by omega))
        | (go_at_call 43; (with_reducible refine (c_sTermOk' (t := t) HTO.out (RdSig.mk (RI.ext HA.out (by exact extX))) (RdI.mk (RI.ext HD.out (by exact extX)))).mono ?_); rintro e w2 ⟨rfl, hE2⟩; have hz2 := sz_of hE2; (try simp only [World.size_alloc, World.size_setCell, World.size_drew] at hz2); obtain ⟨hc2, hf2⟩ := bcell hE2; (try have hq2_0 : w.heap.size < w2.heap.size := by omega); (try have hq2_1 : w.heap.size + 1 < w2.heap.size := by omega); (try have hq2_2 : w.heap.size + 1 + 1 < w2.heap.size := by omega); (try have hq2_3 : w.heap.size + 1 + 1 + 1 < w2.heap.size := by omega); (try have hq2_4 : w.heap.size + 1 + 1 + 1 + 1 < w2.heap.size := by omega); (try have hq2_5 : w.heap.size + 1 + 1 + 1 + 1 + 1 < w2.heap.size := by omega); (try have hx2_1 : w1.heap.size < w2.heap.size := by omega))
        | (go_at_call 96; (with_reducible refine (c_l17Capped (s := s) (t := t) (RdSyK.mk (RI.ext HA.out (by exact extX)) (RR.ext HB.out (by exact extX))) (RdIc.mk HC.out (RI.ext HD.out (by exact extX))) HS.out HT.out).mono ?_); rintro e w3 ⟨A3, n3, c3, rfl, hO3, hE3⟩; have HO3 := Lib.hid hO3; clear hO3; have hz3 := sz_of hE3; (try simp only [World.size_alloc, World.size_setCell, World.size_drew] at hz3); obtain ⟨hc3, hf3⟩ := bcell hE3; (try have hq3_0 : w.heap.size < w3.heap.size := by omega); (try have hq3_1 : w.heap.size + 1 < w3.heap.size := by omega); (try have hq3_2 : w.heap.size + 1 + 1 < w3.heap.size := by omega); (try have hq3_3 : w.heap.size + 1 + 1 + 1 < w3.heap.size := by omega); (try have hq3_4 : w.heap.size + 1 + 1 + 1 + 1 < w3.heap.size := by omega); (try have hq3_5 : w.heap.size + 1 + 1 + 1 + 1 + 1 < w3.heap.size := by omega); (try have hx3_1 : w1.heap.size < w3.heap.size := by omega); (try have hx3_2 : w2.heap.size < w3.heap.size := by omega))
        | (go_at_call 80; (with_reducible refine (c_l2Vars (F := F) (o := capO s t) (RI.ext HO3.out.ri (by exact extX)) (by have := HO3.out.len; have := HT60.out; omega) (by rw [HFF.out]; exact HNG.out)).mono ?_); rintro e w4 ⟨A4, c4, rfl, hE4⟩; have hz4 := sz_of hE4; (try simp only [World.size_alloc, World.size_setCell, World.size_drew] at hz4); obtain ⟨hc4, hf4⟩ := bcell hE4; (try have hq4_0 : w.heap.size < w4.heap.size := by omega); (try have hq4_1 : w.heap.size + 1 < w4.heap.size := by omega); (try have hq4_2 : w.heap.size + 1 + 1 < w4.heap.size := by omega); (try have hq4_3 : w.heap.size + 1 + 1 + 1 < w4.heap.size := by omega); (try have hq4_4 : w.heap.size + 1 + 1 + 1 + 1 < w4.heap.size := by omega); (try have hq4_5 : w.heap.size + 1 + 1 + 1 + 1 + 1 < w4.heap.size := by omega); (try have hx4_1 : w1.heap.size < w4.heap.size := by omega); (try have hx4_2 : w2.heap.size < w4.heap.size := by omega); (try have hx4_3 : w3.heap.size < w4.heap.size := by omega)))
        go_ret2
        exact ⟨A3, n3, c3, by rw [HV.out]; rfl, by rw [capV_t HV.out]; exact RI.ext HO3.out.ri (by exact extX), by exact extX, OwI.cap HO3.out⟩
      · have HV := Lib.hid (show capOk s t = false by unfold capOk; rw [hs, ht]; simpa using hf)
        obtain ⟨F, hF⟩ : ∃ F, F = capF s t := ⟨_, rfl⟩
        rw [← hF] at hf
        have hfi : ¬ ((F : Nat) : Int) ≤ 24 := by omega
        have hfj : (24 : Int) < ((F : Nat) : Int) := by omega
        have HFF := Lib.hid hF
        clear hs ht hF
        go_enter Try.func75, Try.ntmps75
        go_wp2_with (first
        | (go_at_call 39; (with_reducible refine (c_sSystemOk' (s := s) HSO.out (RdSyK.mk (RI.ext HA.out (by exact extX)) (RR.ext HB.out (by exact extX)))).mono ?_); rintro e w1 ⟨rfl, hE1⟩; have hz1 := sz_of hE1; (try simp only [World.size_alloc, World.size_setCell, World.size_drew] at hz1); obtain ⟨hc1, hf1⟩ := bcell hE1; (try have hq1_0 : w.heap.size < w1.heap.size := by omega); (try have hq1_1 : w.heap.size + 1 < w1.heap.size := by omega); (try have hq1_2 : w.heap.size + 1 + 1 < w1.heap.size := by omega); (try have hq1_3 : w.heap.size + 1 + 1 + 1 < w1.heap.size := by omega); (try have hq1_4 : w.heap.size + 1 + 1 + 1 + 1 < w1.heap.size := by omega); (try have hq1_5 : w.heap.size + 1 + 1 + 1 + 1 + 1 < w1.heap.size := by omega))
        | (go_at_call 43; (with_reducible refine (c_sTermOk' (t := t) HTO.out (RdSig.mk (RI.ext HA.out (by exact extX))) (RdI.mk (RI.ext HD.out (by exact extX)))).mono ?_); rintro e w2 ⟨rfl, hE2⟩; have hz2 := sz_of hE2; (try simp only [World.size_alloc, World.size_setCell, World.size_drew] at hz2); obtain ⟨hc2, hf2⟩ := bcell hE2; (try have hq2_0 : w.heap.size < w2.heap.size := by omega); (try have hq2_1 : w.heap.size + 1 < w2.heap.size := by omega); (try have hq2_2 : w.heap.size + 1 + 1 < w2.heap.size := by omega); (try have hq2_3 : w.heap.size + 1 + 1 + 1 < w2.heap.size := by omega); (try have hq2_4 : w.heap.size + 1 + 1 + 1 + 1 < w2.heap.size := by omega); (try have hq2_5 : w.heap.size + 1 + 1 + 1 + 1 + 1 < w2.heap.size := by omega); (try have hx2_1 : w1.heap.size < w2.heap.size := by omega))
        | (go_at_call 96; (with_reducible refine (c_l17Capped (s := s) (t := t) (RdSyK.mk (RI.ext HA.out (by exact extX)) (RR.ext HB.out (by exact extX))) (RdIc.mk HC.out (RI.ext HD.out (by exact extX))) HS.out HT.out).mono ?_); rintro e w3 ⟨A3, n3, c3, rfl, hO3, hE3⟩; have HO3 := Lib.hid hO3; clear hO3; have hz3 := sz_of hE3; (try simp only [World.size_alloc, World.size_setCell, World.size_drew] at hz3); obtain ⟨hc3, hf3⟩ := bcell hE3; (try have hq3_0 : w.heap.size < w3.heap.size := by omega); (try have hq3_1 : w.heap.size + 1 < w3.heap.size := by omega); (try have hq3_2 : w.heap.size + 1 + 1 < w3.heap.size := by omega); (try have hq3_3 : w.heap.size + 1 + 1 + 1 < w3.heap.size := by omega); (try have hq3_4 : w.heap.size + 1 + 1 + 1 + 1 < w3.heap.size := by omega); (try have hq3_5 : w.heap.size + 1 + 1 + 1 + 1 + 1 < w3.heap.size := by omega); (try have hx3_1 : w1.heap.size < w3.heap.size := by omega); (try have hx3_2 : w2.heap.size < w3.heap.size := by omega))
        | (go_at_call 80; (with_reducible refine (c_l2Vars (F := F) (o := capO s t) (RI.ext HO3.out.ri (by exact extX)) (by have := HO3.out.len; have := HT60.out; omega) (by rw [HFF.out]; exact HNG.out)).mono ?_); rintro e w4 ⟨A4, c4, rfl, hE4⟩; have hz4 := sz_of hE4; (try simp only [World.size_alloc, World.size_setCell, World.size_drew] at hz4); obtain ⟨hc4, hf4⟩ := bcell hE4; (try have hq4_0 : w.heap.size < w4.heap.size := by omega); (try have hq4_1 : w.heap.size + 1 < w4.heap.size := by omega); (try have hq4_2 : w.heap.size + 1 + 1 < w4.heap.size := by omega); (try have hq4_3 : w.heap.size + 1 + 1 + 1 < w4.heap.size := by omega); (try have hq4_4 : w.heap.size + 1 + 1 + 1 + 1 < w4.heap.size := by omega); (try have hq4_5 : w.heap.size + 1 + 1 + 1 + 1 + 1 < w4.heap.size := by omega); (try have hx4_1 : w1.heap.size < w4.heap.size := by omega); (try have hx4_2 : w2.heap.size < w4.heap.size := by omega); (try have hx4_3 : w3.heap.size < w4.heap.size := by omega)))
        go_ret2
        refine ⟨_, 0, 0, by rw [HV.out]; rfl, ?_, by exact extX, ⟨Nat.le_refl _, by decide⟩⟩
        rw [capV_f HV.out]; exact RI.nil _ _
theorem c_sCappedOf {v0 v1 : Value} {s : Sy} {t : List Int} {w : World} (h0 : RdSyC w v0 s) (h1 : RdIc w v1 t) :
    Calls Try.prog 75 #[v0, v1] w (NewCq w s t) :=
  (c_sCappedC h0 h1).mono fun _ _ ⟨A, n, c, e, h1, h2, _⟩ => ⟨A, n, c, e, h1, h2⟩
theorem c_sCappedOf' {v0 v1 : Value} {s : Sy} {t oo : List Int} {bb : Bool} {w : World} (hv : oo = capV s t) (hb : bb = capOk s t) (h0 : RdSyC w v0 s) (h1 : RdIc w v1 t) :
    Calls Try.prog 75 #[v0, v1] w fun e w' => ∃ A n c, e = .returned (.tuple #[.slice A n c, .bool bb]) ∧ RI w' A n oo ∧ Ext w w' := by
  subst hv hb
  exact c_sCappedOf h0 h1

end Go.Proofs.Ytempekmenkeigaa
