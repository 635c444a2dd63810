/- The program's path orders: what is told of two places is told once. -/
import Derived.Test.YtleahogikppepaaLpo
namespace Go.Proofs.Ytleahogikppepaa
open Go.RowKit
set_option linter.unusedSimpArgs false
set_option linter.unusedVariables false

def LC.Fd (X : LC) (i j : Nat) : Prop := ∀ w, X.H w → Calls Try.prog 150 #[.pointer (some ⟨X.g, 0, none⟩), .int .i64 (i : Int), .int .i64 (j : Int)] w (X.Tell i j w (.int .i8 (X.W i j : Int)))
theorem LC.Fd.out {X : LC} {i j V : Nat} {w : World} (h : X.Fd i j) (hV : V = X.W i j) (hw : X.H w) :
    Calls Try.prog 150 #[.pointer (some ⟨X.g, 0, none⟩), .int .i64 (i : Int), .int .i64 (j : Int)] w (X.Tell i j w (.int .i8 (V : Int))) := by
  subst hV; exact h w hw
set_option maxRecDepth 100000 in
set_option maxHeartbeats 4000000 in
theorem c_reason {X : LC} {i j : Nat} {w : World} (hP : X.P) (hF : X.Fd i j) (h : X.H w) (hi : i < X.t.length) (hj : j < X.s.length) :
    Calls Try.prog 130 #[.pointer (some ⟨X.g, 0, none⟩), .int .i64 (i : Int), .int .i64 (j : Int)] w (X.Tell i j w (.int .i8 (X.W i j : Int))) := by
  have hi6 : i < 60 := by have := hP.tt.2.1.2; omega
  have hj6 : j < 60 := by have := hP.ts.2.1.2; omega
  obtain ⟨V, hV⟩ : ∃ V, V = X.W i j := ⟨_, rfl⟩
  have hV3 : V ≤ 3 := by rw [hV]; exact X.W_le i j
  have hii : (i : Int) < 60 := by omega
  have hjj : (j : Int) < 60 := by omega
  have hi0 : (0 : Int) ≤ (i : Int) := by omega
  have hj0 : (0 : Int) ≤ (j : Int) := by omega
  obtain ⟨z, hz, hz2⟩ := h.cw i j hi6 hj6
  rw [← hV] at hz2 ⊢
  have HF := Lib.hid hF
  have HH := Lib.hid h
  have HV := Lib.hid hV
  have hfr := h.fr
  clear hF h hV hi hj
  rcases hz2 with rfl | rfl
  · go_enter Try.func130, Try.ntmps130
    go_wp2_with fail
    have hw1 : IntKind.i8.wrap (1 + (V : Int)) = 1 + (V : Int) := IntWalk.i8_in _ (by omega)
    refine wp_only (R := fun (a0 : Act) (a8 : Act) (w9 : World) => a8 = ((((((((((((a0.put (some 16) (.pointer (some ⟨X.g, 0, none⟩))).put (some 17) (.int .i64 (i : Int))).put (some 18) (.int .i64 (j : Int))).put (some 19) (.pointer (some ⟨X.g, 0, none⟩))).put (some 20) (.int .i64 (i : Int))).put (some 21) (.int .i64 (j : Int))).put (some 22) (.int .i8 (V : Int))).put (some 23) (.int .i8 (1 + (V : Int)))).put (some 24) (.pointer (some ⟨X.g, 0, none⟩))).put (some 25) (.pointer (some ⟨X.g, 5, none⟩))).put (some 26) (.pointer (some ⟨X.g, 5 + i * 60, none⟩))).put (some 27) (.pointer (some ⟨X.g, 5 + i * 60 + j, none⟩))) ∧ X.H w9 ∧ Only w w9 X.g ∧ w9.cell? ⟨X.g, 5 + i * 60 + j, none⟩ = some (.int .i8 (1 + (V : Int)))) ?_ (fun a8 w2 hR => ?_)
    · refine wp_region_held_drew (S := (fun w' => X.H w' ∧ Only w w' X.g)) (by kernel_rfl) (⟨HH.out.ext (Ext.refl w).drew, Only.of_ext (Ext.refl w).drew _⟩) (fun hH => ?_)
      refine wpAnyH_take_dst (i := 0) (v := .pointer (some ⟨X.g, 0, none⟩)) (d := some 16) rfl rfl (by kernel_rfl) (by kernel_rfl) (by kernel_rfl) (fun _ _ _ h => h) (Or.inl ⟨by rfl, ?_⟩) hH ?_
      · (intro w' hE'; (try dsimp only at hE'); skip; go_simp; try with_reducible rfl)
      try simp only [Act.put, List.setIfInBounds_toArray, List.set_cons_zero, List.set_cons_succ]
      refine wpAnyH_take_dst (i := 1) (v := .int .i64 (i : Int)) (d := some 17) rfl rfl (by kernel_rfl) (by kernel_rfl) (by kernel_rfl) (fun _ _ _ h => h) (Or.inl ⟨by rfl, ?_⟩) hH ?_
      · (intro w' hE'; (try dsimp only at hE'); skip; go_simp; try with_reducible rfl)
      try simp only [Act.put, List.setIfInBounds_toArray, List.set_cons_zero, List.set_cons_succ]
      refine wpAnyH_take_dst (i := 2) (v := .int .i64 (j : Int)) (d := some 18) rfl rfl (by kernel_rfl) (by kernel_rfl) (by kernel_rfl) (fun _ _ _ h => h) (Or.inl ⟨by rfl, ?_⟩) hH ?_
      · (intro w' hE'; (try dsimp only at hE'); skip; go_simp; try with_reducible rfl)
      try simp only [Act.put, List.setIfInBounds_toArray, List.set_cons_zero, List.set_cons_succ]
      refine wpAnyH_take_dst (i := 3) (v := .pointer (some ⟨X.g, 0, none⟩)) (d := some 19) rfl rfl (by kernel_rfl) (by kernel_rfl) (by kernel_rfl) (fun _ _ _ h => h) (Or.inl ⟨by rfl, ?_⟩) hH ?_
      · (intro w' hE'; (try dsimp only at hE'); skip; go_simp; try with_reducible rfl)
      try simp only [Act.put, List.setIfInBounds_toArray, List.set_cons_zero, List.set_cons_succ]
      refine wpAnyH_take_dst (i := 4) (v := .int .i64 (i : Int)) (d := some 20) rfl rfl (by kernel_rfl) (by kernel_rfl) (by kernel_rfl) (fun _ _ _ h => h) (Or.inl ⟨by rfl, ?_⟩) hH ?_
      · (intro w' hE'; (try dsimp only at hE'); skip; go_simp; try with_reducible rfl)
      try simp only [Act.put, List.setIfInBounds_toArray, List.set_cons_zero, List.set_cons_succ]
      refine wpAnyH_take_dst (i := 5) (v := .int .i64 (j : Int)) (d := some 21) rfl rfl (by kernel_rfl) (by kernel_rfl) (by kernel_rfl) (fun _ _ _ h => h) (Or.inl ⟨by rfl, ?_⟩) hH ?_
      · (intro w' hE'; (try dsimp only at hE'); skip; go_simp; try with_reducible rfl)
      try simp only [Act.put, List.setIfInBounds_toArray, List.set_cons_zero, List.set_cons_succ]
      refine wpAnyH_take_dst (i := 8) (v := .pointer (some ⟨X.g, 0, none⟩)) (d := some 24) rfl rfl (by kernel_rfl) (by kernel_rfl) (by kernel_rfl) (fun _ _ _ h => h) (Or.inl ⟨by rfl, ?_⟩) hH ?_
      · (intro w' hE'; (try dsimp only at hE'); skip; go_simp; try with_reducible rfl)
      try simp only [Act.put, List.setIfInBounds_toArray, List.set_cons_zero, List.set_cons_succ]
      refine wpAnyH_take_dst (i := 9) (v := .pointer (some ⟨X.g, 5, none⟩)) (d := some 25) rfl rfl (by kernel_rfl) (by kernel_rfl) (by kernel_rfl) (fun _ _ _ h => h) (Or.inl ⟨by rfl, ?_⟩) hH ?_
      · (intro w' hE'; (try dsimp only at hE'); skip; go_simp; try with_reducible rfl)
      try simp only [Act.put, List.setIfInBounds_toArray, List.set_cons_zero, List.set_cons_succ]
      refine wpAnyH_take_dst (i := 10) (v := .pointer (some ⟨X.g, 5 + i * 60, none⟩)) (d := some 26) rfl rfl (by kernel_rfl) (by kernel_rfl) (by kernel_rfl) (fun _ _ _ h => h) (Or.inl ⟨by rfl, ?_⟩) hH ?_
      · (intro w' hE'; (try dsimp only at hE'); skip; go_simp; try with_reducible rfl)
      try simp only [Act.put, List.setIfInBounds_toArray, List.set_cons_zero, List.set_cons_succ]
      refine wpAnyH_ready (rs := [6]) (by kernel_rfl) (by simp) ?_
      refine AllReadyH.cons rfl (fun K hK => ?_) AllReadyH.nil
      rw [if_pos (by rfl)]
      go_wp2_with fail
      (with_reducible refine (HF.out.out HV.out hH.1).mono ?_)
      rintro e w9 ⟨rfl, hH9, hO9⟩
      refine hK.out _ _ (⟨hH9, hH.2.trans hO9⟩) (fun hH9 => ?_)
      clear hK; have hH0 := hH; clear hH; have hH := hH9; clear hH9
      try simp only [Act.put, List.setIfInBounds_toArray, List.set_cons_zero, List.set_cons_succ]
      refine wpAnyH_take_dst (i := 7) (v := .int .i8 (1 + (V : Int))) (d := some 23) rfl rfl (by kernel_rfl) (by kernel_rfl) (by kernel_rfl) (fun _ _ _ h => h) (Or.inl ⟨by rfl, ?_⟩) hH ?_
      · (intro w' hE'; (try dsimp only at hE'); skip; go_simp; try with_reducible rfl)
      try simp only [Act.put, List.setIfInBounds_toArray, List.set_cons_zero, List.set_cons_succ]
      refine wpAnyH_take_dst (i := 11) (v := .pointer (some ⟨X.g, 5 + i * 60 + j, none⟩)) (d := some 27) rfl rfl (by kernel_rfl) (by kernel_rfl) (by kernel_rfl) (fun _ _ _ h => h) (Or.inl ⟨by rfl, ?_⟩) hH ?_
      · (intro w' hE'; (try dsimp only at hE'); skip; go_simp; try with_reducible rfl)
      try simp only [Act.put, List.setIfInBounds_toArray, List.set_cons_zero, List.set_cons_succ]
      refine wpAnyH_ready (rs := [12]) (by kernel_rfl) (by simp) ?_
      refine AllReadyH.cons rfl (fun K hK => ?_) AllReadyH.nil
      rw [if_pos (by rfl)]
      obtain ⟨z9, hz9, _⟩ := hH.1.cw i j hi6 hj6; have hf9 := hH.1.fr; go_wp2_with fail
      refine hK.out _ _ (⟨hH.1.set hi6 hj6 (by rw [← HV.out]; first | rfl | simp), hH.2.trans (Only.setCell _ _ _ _)⟩) (fun hH9 => ?_)
      clear hK; have hH0 := hH; clear hH; have hH := hH9; clear hH9
      try simp only [Act.put, List.setIfInBounds_toArray, List.set_cons_zero, List.set_cons_succ]
      refine wpAnyH_done (by kernel_rfl) ?_ _
      exact ⟨rfl, hH.1, hH.2, World.cell?_setCell_same _ _ _ (hH0.1.cw i j hi6 hj6).choose_spec.1⟩
    obtain ⟨ha, ⟨hH2, hO2, hc2⟩⟩ := hR
    simp only [Act.put, List.setIfInBounds_toArray, List.set_cons_zero, List.set_cons_succ] at ha
    subst ha
    have HH2 := Lib.hid hH2
    clear hH2
    have hw3 : IntKind.i8.wrap (1 + (V : Int) - 1) = (V : Int) := by rw [show 1 + (V : Int) - 1 = (V : Int) by omega]; exact IntWalk.i8_in _ (by omega)
    go_wp2
    go_ret
    exact ⟨rfl, HH2.out, hO2⟩
  · have hne : ((1 + V : Nat) : Int) ≠ 0 := by omega
    have hb : (((1 + V : Nat) : Int) == 0) = false := by simpa using hne
    go_enter Try.func130, Try.ntmps130
    go_wp2
    go_ret
    exact ⟨ret_int (by first | (simp; done) | (rw [IntWalk.i8_in _ (by omega)]; omega) | omega), HH.out, Only.refl _ _⟩

end Go.Proofs.Ytleahogikppepaa
