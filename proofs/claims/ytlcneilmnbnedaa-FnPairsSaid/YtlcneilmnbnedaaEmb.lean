/- The reference: where a term lies in another one; defined symbols. -/
import Derived.Test.YtlcneilmnbnedaaSubA
import Derived.Test.YtlcneilmnbnedaaDepS
namespace Go.Proofs.Ytlcneilmnbnedaa
open Go.RowKit
set_option linter.unusedSimpArgs false
set_option linter.unusedVariables false

theorem fill_self : ∀ (t : List Int), fill (fun x => [x]) t = t
  | [] => rfl
  | x :: t => by rw [fill_cons, fill_self t]; split <;> rfl
theorem inst_refl (ar t : List Int) : InstP ar t t := ⟨fun x => [x], fun x _ hx => ⟨.node x [], Ok_node.2 ⟨by rw [arI_var hx]; rfl, by simp [OkL]⟩, by rw [flat_node, flatL_nil]⟩, fill_self t⟩
/-- Places found so far. -/
structure EmbTo (ar P T : List Int) (k : Nat) (ys : List Int) : Prop where
  lt : ∀ y ∈ ys, ∃ j : Nat, y = (j : Int) ∧ j < k
  all : ∀ j : Nat, j < k → InstP ar P (subT ar T j).flat → (j : Int) ∈ ys
theorem EmbTo.no {ar P T ys : List Int} {k : Nat} (h : EmbTo ar P T k ys) (hn : ¬ InstP ar P (subT ar T k).flat) : EmbTo ar P T (k + 1) ys :=
  ⟨fun y hy => by obtain ⟨j, e, hj⟩ := h.lt y hy; exact ⟨j, e, by omega⟩, fun j hj hi => by
    rcases Nat.lt_or_ge j k with h1 | h1
    · exact h.all j h1 hi
    · obtain rfl : j = k := by omega
      exact absurd hi hn⟩
theorem EmbTo.yes {ar P T ys : List Int} {k : Nat} (h : EmbTo ar P T k ys) : EmbTo ar P T (k + 1) (ys ++ [(k : Int)]) :=
  ⟨fun y hy => by
    rcases List.mem_append.1 hy with hy | hy
    · obtain ⟨j, e, hj⟩ := h.lt y hy; exact ⟨j, e, by omega⟩
    · rw [List.mem_singleton] at hy; exact ⟨k, hy, by omega⟩, fun j hj hi => by
    rcases Nat.lt_or_ge j k with h1 | h1
    · exact List.mem_append_left _ (h.all j h1 hi)
    · obtain rfl : j = k := by omega
      exact List.mem_append_right _ (List.mem_singleton.2 rfl)⟩
def NewEm (w : World) (P T ar : List Int) (e : Ending) (w' : World) : Prop := ∃ (A : Option Addr) (n c : Nat) (ys : List Int), e = .returned (.slice A n c) ∧ RI w' A n ys ∧ n ≤ 60 ∧ EmbTo ar P T T.length ys ∧ Ext w w'
set_option maxRecDepth 100000 in
set_option maxHeartbeats 8000000 in
theorem c_EmbedsA {v0 : Value} {ar P T : List Int} {PA A : Option Addr} {pn pc n c : Nat} {w : World} (h0 : RdSig w v0 ar) (h1 : RI w PA pn P) (h2 : RI w A n T) (hc : n ≤ c ∧ c ≤ 9223372036854775807) (hP : TermP ar P) (hT : TermP ar T) :
    Calls Try.prog 12 #[v0, .slice PA pn pc, .slice A n c] w (NewEm w P T ar) := by
  obtain ⟨SA, sn, sc, rfl, hs⟩ := h0
  have HA := Lib.hid hs
  have HPI := Lib.hid h1
  have HTI := Lib.hid h2
  have HPT := Lib.hid hP
  have HTP := Lib.hid hT
  have HLT := Lib.hid h2.len
  have hn60 : n ≤ 60 := by rw [← h2.len]; exact hT.2.1.2
  obtain ⟨i0, hii, hiz, his, hib⟩ := info_parts int64_info
  clear hs h1 h2 hP hT
  go_enter Try.func12, Try.ntmps12
  go_wp2_with fail
  obtain ⟨w1, hw1⟩ : ∃ w1, w1 = w.alloc (.cells #[.slice SA sn sc] 29) := ⟨_, rfl⟩
  have hb1 : w1.cell? ⟨w.heap.size, 0, none⟩ = some (.slice SA sn sc) := by rw [hw1]; simp [go_sem]
  have hz1 : w1.heap.size = w.heap.size + 1 := by rw [hw1]; exact World.size_alloc ..
  have hEa : Ext w w1 := by rw [hw1]; exact extX
  obtain ⟨wo, hwo⟩ : ∃ wo, wo = w1.alloc (.cells #[] 2) := ⟨_, rfl⟩
  have hE1o : Ext w1 wo := by rw [hwo]; exact extX
  have hb0 : wo.cell? ⟨w.heap.size, 0, none⟩ = some (.slice SA sn sc) := Ext.keep hE1o hb1
  have HO0 := Lib.hid (show OwI wo w1.heap.size (some ⟨w1.heap.size, 0, none⟩) 0 0 [] from by rw [hwo]; exact OwI.none0 (Nat.le_refl _))
  have hEo := Ext.trans hEa hE1o
  rw [← hw1, ← hwo, ← hz1]
  clear hwo hw1 hz1
  (with_reducible refine (c_sTermOkA HPT.out (RdSig.mk (RI.ext HA.out hEo)) (RdI.mk (RI.ext HPI.out hEo))).mono ?_)
  rintro e w2 ⟨rfl, hE2⟩
  have hb2 := Ext.keep hE2 hb0
  have hEo2 := Ext.trans hEo hE2
  go_wp2_with fail
  (with_reducible refine (c_sTermOkA HTP.out (RdSig.mk (RI.ext HA.out hEo2)) (RdI.mk (RI.ext HTI.out hEo2))).mono ?_)
  rintro e w3 ⟨rfl, hE3⟩
  have hE13 : Ext w1 w3 := Ext.trans hE1o (Ext.trans hE2 hE3)
  have HO3 := Lib.hid ((HO0.out.ext hE2).ext hE3)
  clear hb0 hb2 hE2 hE3 hE1o hEo hEo2
  go_wp2_with fail
  go_loopw [7, 8] (fun ov iv wr => ∃ k : Nat, iv = .int .i64 k ∧ k ≤ n ∧ (∃ A9 n9 c9, ov = .slice A9 n9 c9 ∧ n9 ≤ k ∧ Hid (∃ ys, OwI wr w1.heap.size A9 n9 c9 ys ∧ EmbTo ar P T k ys)) ∧ Ext w1 wr) (fun _ iv _ => n - (intOf iv).toNat)
  case atStart => exact ⟨0, rfl, Nat.zero_le _, ⟨_, 0, 0, rfl, Nat.le_refl _, Lib.hid ⟨[], HO3.out, ⟨(fun y hy => by cases hy), (fun j hj => by omega)⟩⟩⟩, hE13⟩
  case round =>
    obtain ⟨k, rfl, hk, ⟨A9, n9, c9, rfl, hn9, hI⟩, hE⟩ := hrel
    obtain ⟨ys, hO, hM⟩ := hI.out
    have HO := Lib.hid hO
    have HM := Lib.hid hM
    have hr0 := Ext.keep hE hb1
    have hEr := Ext.trans hEa hE
    clear hI hO hM
    by_cases hlt : k < n
    · have hki : (k : Int) < (n : Int) := by omega
      have HKT := Lib.hid (show k < T.length by have := HLT.out; omega)
      have HST := Lib.hid (sub_term HTP.out HKT.out)
      have hzr : w.heap.size < wr.heap.size := World.block_lt_of_cell? wr _ hr0
      go_wp2_with fail
      refine wp_only (R := fun (a0 : Act) (a8 : Act) (w9 : World) => ∃ (A8 : Option Addr) (n8 : Nat) (c8 : Nat) (A10 : Option Addr) (n10 : Nat) (c10 : Nat) (b10 : Bool) (q : Nat), a8 = ((((((((((((a0.put (some 30) (.agg #[.slice SA sn sc])).put (some 31) (.slice PA pn pc)).put (some 32) (.agg #[.slice SA sn sc])).put (some 33) (.slice A n c)).put (some 34) (.int .i64 (k : Int))).put (some 35) (.slice A8 n8 c8)).put (some 36) (.tuple #[.agg #[.slice A10 n10 c10], .bool b10])).put (some 29) (.tuple #[.agg #[.slice A10 n10 c10], .bool b10])).put (some 37) (.agg #[.slice A10 n10 c10])).put (some 38) (.bool b10)).put (some 9) (.pointer (some ⟨q, 0, none⟩))).put (some 10) (.bool b10)) ∧ (b10 = false → ¬ InstP ar P (subT ar T k).flat) ∧ Ext wr w9) ?_ (fun a8 w5 hR => ?_)
      · refine wp_region_held_drew (S := (fun w' => Ext wr w')) (by kernel_rfl) ((Ext.refl wr).drew) (fun hH => ?_)
        refine wpAnyH_take_dst (i := 0) (v := .agg #[.slice SA sn sc]) (d := some 30) rfl rfl (by kernel_rfl) (by kernel_rfl) (by kernel_rfl) (fun _ _ _ h => h) (Or.inl ⟨by rfl, ?_⟩) hH ?_
        · (intro w' hE'; (try dsimp only at hE'); have y0 := Ext.keep hE' hr0; go_simp; try with_reducible rfl)
        try simp only [Act.put, List.setIfInBounds_toArray, List.set_cons_zero, List.set_cons_succ]
        refine wpAnyH_take_dst (i := 1) (v := .slice PA pn pc) (d := some 31) rfl rfl (by kernel_rfl) (by kernel_rfl) (by kernel_rfl) (fun _ _ _ h => h) (Or.inl ⟨by rfl, ?_⟩) hH ?_
        · (intro w' hE'; (try dsimp only at hE'); have y0 := Ext.keep hE' hr0; go_simp; try with_reducible rfl)
        try simp only [Act.put, List.setIfInBounds_toArray, List.set_cons_zero, List.set_cons_succ]
        refine wpAnyH_take_dst (i := 2) (v := .agg #[.slice SA sn sc]) (d := some 32) rfl rfl (by kernel_rfl) (by kernel_rfl) (by kernel_rfl) (fun _ _ _ h => h) (Or.inl ⟨by rfl, ?_⟩) hH ?_
        · (intro w' hE'; (try dsimp only at hE'); have y0 := Ext.keep hE' hr0; go_simp; try with_reducible rfl)
        try simp only [Act.put, List.setIfInBounds_toArray, List.set_cons_zero, List.set_cons_succ]
        refine wpAnyH_take_dst (i := 3) (v := .slice A n c) (d := some 33) rfl rfl (by kernel_rfl) (by kernel_rfl) (by kernel_rfl) (fun _ _ _ h => h) (Or.inl ⟨by rfl, ?_⟩) hH ?_
        · (intro w' hE'; (try dsimp only at hE'); have y0 := Ext.keep hE' hr0; go_simp; try with_reducible rfl)
        try simp only [Act.put, List.setIfInBounds_toArray, List.set_cons_zero, List.set_cons_succ]
        refine wpAnyH_take_dst (i := 4) (v := .int .i64 (k : Int)) (d := some 34) rfl rfl (by kernel_rfl) (by kernel_rfl) (by kernel_rfl) (fun _ _ _ h => h) (Or.inl ⟨by rfl, ?_⟩) hH ?_
        · (intro w' hE'; (try dsimp only at hE'); have y0 := Ext.keep hE' hr0; go_simp; try with_reducible rfl)
        try simp only [Act.put, List.setIfInBounds_toArray, List.set_cons_zero, List.set_cons_succ]
        refine wpAnyH_ready (rs := [5, 10]) (by kernel_rfl) (by simp) ?_
        refine AllReadyH.cons rfl (fun K hK => ?_) (AllReadyH.cons rfl (fun K hK => ?_) (AllReadyH.nil))
        · rw [if_pos (by rfl)]
          go_wp2_with fail; (with_reducible refine (c_l1SubT (RdSig.mk (RI.ext HA.out (Ext.trans hEr hH))) (RI.ext HTI.out (Ext.trans hEr hH)) hc HTP.out HKT.out).mono ?_); rintro e w8 ⟨A8, n8, c8, rfl, hO8, hE8⟩; have hX8 := Ext.trans hH hE8
          refine hK.out _ _ (hX8) (fun hH9 => ?_)
          clear hK; have hH0 := hH; clear hH; have hH := hH9; clear hH9
          try simp only [Act.put, List.setIfInBounds_toArray, List.set_cons_zero, List.set_cons_succ]
          refine wpAnyH_ready (rs := [6, 10]) (by kernel_rfl) (by simp) ?_
          refine AllReadyH.cons rfl (fun K hK => ?_) (AllReadyH.cons rfl (fun K hK => ?_) (AllReadyH.nil))
          · rw [if_pos (by rfl)]
            go_wp2_with fail; (with_reducible refine (c_l4Match (RdSig.mk (RI.ext HA.out (Ext.trans hEr hH))) (RdI.mk (RI.ext HPI.out (Ext.trans hEr hH))) hO8.ri hO8.cap HPT.out HST.out.1).mono ?_); rintro e w10 ⟨A10, n10, c10, σ, b10, rfl, hR10, hM10, hE10⟩; have hX10 := Ext.trans hH hE10; have hz10 := hE10.size
            refine hK.out _ _ (hX10) (fun hH9 => ?_)
            clear hK; have hH0 := hH; clear hH; have hH := hH9; clear hH9
            try simp only [Act.put, List.setIfInBounds_toArray, List.set_cons_zero, List.set_cons_succ]
            refine wpAnyH_take_dst (i := 7) (v := .tuple #[.agg #[.slice A10 n10 c10], .bool b10]) (d := some 29) rfl rfl (by kernel_rfl) (by kernel_rfl) (by kernel_rfl) (fun _ _ _ h => h) (Or.inl ⟨by rfl, ?_⟩) hH ?_
            · (intro w' hE'; (try dsimp only at hE'); have y0 := Ext.keep hE' hr0; go_simp; try with_reducible rfl)
            try simp only [Act.put, List.setIfInBounds_toArray, List.set_cons_zero, List.set_cons_succ]
            refine wpAnyH_take_dst (i := 8) (v := .agg #[.slice A10 n10 c10]) (d := some 37) rfl rfl (by kernel_rfl) (by kernel_rfl) (by kernel_rfl) (fun _ _ _ h => h) (Or.inl ⟨by rfl, ?_⟩) hH ?_
            · (intro w' hE'; (try dsimp only at hE'); have y0 := Ext.keep hE' hr0; go_simp; try with_reducible rfl)
            try simp only [Act.put, List.setIfInBounds_toArray, List.set_cons_zero, List.set_cons_succ]
            refine wpAnyH_take_dst (i := 9) (v := .bool b10) (d := some 38) rfl rfl (by kernel_rfl) (by kernel_rfl) (by kernel_rfl) (fun _ _ _ h => h) (Or.inl ⟨by rfl, ?_⟩) hH ?_
            · (intro w' hE'; (try dsimp only at hE'); have y0 := Ext.keep hE' hr0; go_simp; try with_reducible rfl)
            try simp only [Act.put, List.setIfInBounds_toArray, List.set_cons_zero, List.set_cons_succ]
            refine wpAnyH_ready (rs := [10]) (by kernel_rfl) (by simp) ?_
            refine AllReadyH.cons rfl (fun K hK => ?_) AllReadyH.nil
            rw [if_pos (by rfl)]
            have hs13 := hH.size; go_wp2_with fail
            refine hK.out _ _ (hH.alloc _) (fun hH9 => ?_)
            clear hK; have hH0 := hH; clear hH; have hH := hH9; clear hH9
            try simp only [Act.put, List.setIfInBounds_toArray, List.set_cons_zero, List.set_cons_succ]
            refine wpAnyH_ready (rs := [11]) (by kernel_rfl) (by simp) ?_
            refine AllReadyH.cons rfl (fun K hK => ?_) AllReadyH.nil
            rw [if_pos (by rfl)]
            go_wp2_with fail
            refine hK.out _ _ (hX10.alloc _) (fun hH9 => ?_)
            clear hK; have hH0 := hH; clear hH; have hH := hH9; clear hH9
            try simp only [Act.put, List.setIfInBounds_toArray, List.set_cons_zero, List.set_cons_succ]
            refine wpAnyH_take_dst (i := 12) (v := .bool b10) (d := some 10) rfl rfl (by kernel_rfl) (by kernel_rfl) (by kernel_rfl) (fun _ _ _ h => h) (Or.inl ⟨by rfl, ?_⟩) hH ?_
            · (intro w' hE'; (try dsimp only at hE'); have y0 := Ext.keep hE' hr0; go_simp; try with_reducible rfl)
            try simp only [Act.put, List.setIfInBounds_toArray, List.set_cons_zero, List.set_cons_succ]
            refine wpAnyH_done (by kernel_rfl) ?_ _
            exact ⟨A8, n8, c8, A10, n10, c10, b10, _, by rfl, hM10.2, hH⟩
          · rw [if_pos (by rfl)]
            have hs13 := hH.size; go_wp2_with fail
            refine hK.out _ _ (hH.alloc _) (fun hH9 => ?_)
            clear hK; have hH0 := hH; clear hH; have hH := hH9; clear hH9
            try simp only [Act.put, List.setIfInBounds_toArray, List.set_cons_zero, List.set_cons_succ]
            refine wpAnyH_ready (rs := [6]) (by kernel_rfl) (by simp) ?_
            refine AllReadyH.cons rfl (fun K hK => ?_) AllReadyH.nil
            rw [if_pos (by rfl)]
            go_wp2_with fail; (with_reducible refine (c_l4Match (RdSig.mk (RI.ext HA.out (Ext.trans hEr hH))) (RdI.mk (RI.ext HPI.out (Ext.trans hEr hH))) (hO8.alloc _).ri hO8.cap HPT.out HST.out.1).mono ?_); rintro e w10 ⟨A10, n10, c10, σ, b10, rfl, hR10, hM10, hE10⟩; have hX10 := Ext.trans hH hE10; have hz10 := hE10.size
            refine hK.out _ _ (hX10) (fun hH9 => ?_)
            clear hK; have hH0 := hH; clear hH; have hH := hH9; clear hH9
            try simp only [Act.put, List.setIfInBounds_toArray, List.set_cons_zero, List.set_cons_succ]
            refine wpAnyH_take_dst (i := 7) (v := .tuple #[.agg #[.slice A10 n10 c10], .bool b10]) (d := some 29) rfl rfl (by kernel_rfl) (by kernel_rfl) (by kernel_rfl) (fun _ _ _ h => h) (Or.inl ⟨by rfl, ?_⟩) hH ?_
            · (intro w' hE'; (try dsimp only at hE'); have y0 := Ext.keep hE' hr0; go_simp; try with_reducible rfl)
            try simp only [Act.put, List.setIfInBounds_toArray, List.set_cons_zero, List.set_cons_succ]
            refine wpAnyH_take_dst (i := 8) (v := .agg #[.slice A10 n10 c10]) (d := some 37) rfl rfl (by kernel_rfl) (by kernel_rfl) (by kernel_rfl) (fun _ _ _ h => h) (Or.inl ⟨by rfl, ?_⟩) hH ?_
            · (intro w' hE'; (try dsimp only at hE'); have y0 := Ext.keep hE' hr0; go_simp; try with_reducible rfl)
            try simp only [Act.put, List.setIfInBounds_toArray, List.set_cons_zero, List.set_cons_succ]
            refine wpAnyH_take_dst (i := 9) (v := .bool b10) (d := some 38) rfl rfl (by kernel_rfl) (by kernel_rfl) (by kernel_rfl) (fun _ _ _ h => h) (Or.inl ⟨by rfl, ?_⟩) hH ?_
            · (intro w' hE'; (try dsimp only at hE'); have y0 := Ext.keep hE' hr0; go_simp; try with_reducible rfl)
            try simp only [Act.put, List.setIfInBounds_toArray, List.set_cons_zero, List.set_cons_succ]
            refine wpAnyH_ready (rs := [11]) (by kernel_rfl) (by simp) ?_
            refine AllReadyH.cons rfl (fun K hK => ?_) AllReadyH.nil
            rw [if_pos (by rfl)]
            have z0 : w10.cell? ⟨w8.heap.size, 0, none⟩ = some (.slice none 0 0) := Ext.keep hE10 (by simp [go_sem]); have zf : ∀ j, w10.frozen? ⟨w8.heap.size, j, none⟩ = false := fun j => (Below.frozen (p := ⟨w8.heap.size, j, none⟩) hE10 (by simp)).trans (by simp [go_sem]); go_wp2_with fail
            refine hK.out _ _ (Ext.set hX10 hs13 _) (fun hH9 => ?_)
            clear hK; have hH0 := hH; clear hH; have hH := hH9; clear hH9
            try simp only [Act.put, List.setIfInBounds_toArray, List.set_cons_zero, List.set_cons_succ]
            refine wpAnyH_take_dst (i := 12) (v := .bool b10) (d := some 10) rfl rfl (by kernel_rfl) (by kernel_rfl) (by kernel_rfl) (fun _ _ _ h => h) (Or.inl ⟨by rfl, ?_⟩) hH ?_
            · (intro w' hE'; (try dsimp only at hE'); have y0 := Ext.keep hE' hr0; go_simp; try with_reducible rfl)
            try simp only [Act.put, List.setIfInBounds_toArray, List.set_cons_zero, List.set_cons_succ]
            refine wpAnyH_done (by kernel_rfl) ?_ _
            exact ⟨A8, n8, c8, A10, n10, c10, b10, _, by rfl, hM10.2, hH⟩
        · rw [if_pos (by rfl)]
          have hs13 := hH.size; go_wp2_with fail
          refine hK.out _ _ (hH.alloc _) (fun hH9 => ?_)
          clear hK; have hH0 := hH; clear hH; have hH := hH9; clear hH9
          try simp only [Act.put, List.setIfInBounds_toArray, List.set_cons_zero, List.set_cons_succ]
          refine wpAnyH_ready (rs := [5]) (by kernel_rfl) (by simp) ?_
          refine AllReadyH.cons rfl (fun K hK => ?_) AllReadyH.nil
          rw [if_pos (by rfl)]
          go_wp2_with fail; (with_reducible refine (c_l1SubT (RdSig.mk (RI.ext HA.out (Ext.trans hEr hH))) (RI.ext HTI.out (Ext.trans hEr hH)) hc HTP.out HKT.out).mono ?_); rintro e w8 ⟨A8, n8, c8, rfl, hO8, hE8⟩; have hX8 := Ext.trans hH hE8
          refine hK.out _ _ (hX8) (fun hH9 => ?_)
          clear hK; have hH0 := hH; clear hH; have hH := hH9; clear hH9
          try simp only [Act.put, List.setIfInBounds_toArray, List.set_cons_zero, List.set_cons_succ]
          refine wpAnyH_ready (rs := [6]) (by kernel_rfl) (by simp) ?_
          refine AllReadyH.cons rfl (fun K hK => ?_) AllReadyH.nil
          rw [if_pos (by rfl)]
          go_wp2_with fail; (with_reducible refine (c_l4Match (RdSig.mk (RI.ext HA.out (Ext.trans hEr hH))) (RdI.mk (RI.ext HPI.out (Ext.trans hEr hH))) hO8.ri hO8.cap HPT.out HST.out.1).mono ?_); rintro e w10 ⟨A10, n10, c10, σ, b10, rfl, hR10, hM10, hE10⟩; have hX10 := Ext.trans hH hE10; have hz10 := hE10.size
          refine hK.out _ _ (hX10) (fun hH9 => ?_)
          clear hK; have hH0 := hH; clear hH; have hH := hH9; clear hH9
          try simp only [Act.put, List.setIfInBounds_toArray, List.set_cons_zero, List.set_cons_succ]
          refine wpAnyH_take_dst (i := 7) (v := .tuple #[.agg #[.slice A10 n10 c10], .bool b10]) (d := some 29) rfl rfl (by kernel_rfl) (by kernel_rfl) (by kernel_rfl) (fun _ _ _ h => h) (Or.inl ⟨by rfl, ?_⟩) hH ?_
          · (intro w' hE'; (try dsimp only at hE'); have y0 := Ext.keep hE' hr0; go_simp; try with_reducible rfl)
          try simp only [Act.put, List.setIfInBounds_toArray, List.set_cons_zero, List.set_cons_succ]
          refine wpAnyH_take_dst (i := 8) (v := .agg #[.slice A10 n10 c10]) (d := some 37) rfl rfl (by kernel_rfl) (by kernel_rfl) (by kernel_rfl) (fun _ _ _ h => h) (Or.inl ⟨by rfl, ?_⟩) hH ?_
          · (intro w' hE'; (try dsimp only at hE'); have y0 := Ext.keep hE' hr0; go_simp; try with_reducible rfl)
          try simp only [Act.put, List.setIfInBounds_toArray, List.set_cons_zero, List.set_cons_succ]
          refine wpAnyH_take_dst (i := 9) (v := .bool b10) (d := some 38) rfl rfl (by kernel_rfl) (by kernel_rfl) (by kernel_rfl) (fun _ _ _ h => h) (Or.inl ⟨by rfl, ?_⟩) hH ?_
          · (intro w' hE'; (try dsimp only at hE'); have y0 := Ext.keep hE' hr0; go_simp; try with_reducible rfl)
          try simp only [Act.put, List.setIfInBounds_toArray, List.set_cons_zero, List.set_cons_succ]
          refine wpAnyH_ready (rs := [11]) (by kernel_rfl) (by simp) ?_
          refine AllReadyH.cons rfl (fun K hK => ?_) AllReadyH.nil
          rw [if_pos (by rfl)]
          have z0 : w10.cell? ⟨wr.heap.size, 0, none⟩ = some (.slice none 0 0) := Ext.keep hE10 (Ext.keep hE8 (by simp [go_sem])); have zf : ∀ j, w10.frozen? ⟨wr.heap.size, j, none⟩ = false := fun j => ((Below.frozen (p := ⟨wr.heap.size, j, none⟩) hE10 (by have := hE8.size; simp at this; show wr.heap.size < w8.heap.size; omega)).trans (Below.frozen (p := ⟨wr.heap.size, j, none⟩) hE8 (by simp))).trans (by simp [go_sem]); have hs8 := hE8.size; go_wp2_with fail
          refine hK.out _ _ (Ext.set hX10 (Nat.le_refl _) _) (fun hH9 => ?_)
          clear hK; have hH0 := hH; clear hH; have hH := hH9; clear hH9
          try simp only [Act.put, List.setIfInBounds_toArray, List.set_cons_zero, List.set_cons_succ]
          refine wpAnyH_take_dst (i := 12) (v := .bool b10) (d := some 10) rfl rfl (by kernel_rfl) (by kernel_rfl) (by kernel_rfl) (fun _ _ _ h => h) (Or.inl ⟨by rfl, ?_⟩) hH ?_
          · (intro w' hE'; (try dsimp only at hE'); have y0 := Ext.keep hE' hr0; go_simp; try with_reducible rfl)
          try simp only [Act.put, List.setIfInBounds_toArray, List.set_cons_zero, List.set_cons_succ]
          refine wpAnyH_done (by kernel_rfl) ?_ _
          exact ⟨A8, n8, c8, A10, n10, c10, b10, _, by rfl, hM10.2, hH⟩
      obtain ⟨A8, n8, c8, A10, n10, c10, b10, q, ha, ⟨hM5, hE5⟩⟩ := hR
      simp only [Act.put, List.setIfInBounds_toArray, List.set_cons_zero, List.set_cons_succ] at ha
      subst ha
      have HM5 := Lib.hid hM5
      have HO5 := Lib.hid (HO.out.ext hE5)
      have hE15 := Ext.trans hE hE5
      clear hM5
      cases b10 with
      | false =>
        have HN := Lib.hid (HM.out.no (HM5.out rfl))
        go_wp2_with fail
        go_roundw
        case rel => exact ⟨k + 1, by go_num, by omega, ⟨_, _, _, rfl, by omega, Lib.hid ⟨ys, HO5.out, HN.out⟩⟩, hE15⟩
        case measure => simp only [intOf]; omega
      | true =>
        have HN := Lib.hid HM.out.yes
        have hsz15 := hE15.size
        go_wp2_with (at_builtin; go_loud (refine wpList_append_lies _ rfl (.tmp 40) (.tmp 42) 27 rfl w1.heap.size 2 i0 (.int .i64 0) 1 8 Try.underlying27 hii hiz his hib rfl (by decide) _ _ _ rfl (OwI.alloc HO5.out _).2 ⟨w5.heap.size, 0, none⟩ 1 1 [.int .i64 (k : Int)] rfl rfl (one_cells _ _ _) (one_one _) (by decide) (by unfold maxLen; omega) (by omega) (by go_size) _ rfl ?_))
        intro g cap wx hown hg hat hltg
        have hE4 : Ext w1 wx := Ext.grown (hE15.alloc _) hg (fun k' hk' => (HO5.out.ob2 k' hk').1)
        have HW := Lib.hid (show OwI wx w1.heap.size (some ⟨g, 0, none⟩) (n9 + 1) cap (ys ++ [(k : Int)]) from ⟨by omega, by rw [List.map_append]; exact hown⟩)
        clear hown hg hat
        go_wp2_with fail
        go_roundw
        case rel => exact ⟨k + 1, by go_num, by omega, ⟨_, _, _, rfl, by omega, Lib.hid ⟨_, HW.out, HN.out⟩⟩, hE4⟩
        case measure => simp only [intOf]; omega
    · have hkn : k = n := by omega
      have HME := Lib.hid (show EmbTo ar P T T.length ys by rw [HLT.out, ← hkn]; exact HM.out)
      go_wp2_with fail
      go_ret
      exact ⟨_, _, _, ys, rfl, HO.out.ri, by omega, HME.out, hEr⟩
set_option maxRecDepth 100000 in
set_option maxHeartbeats 2000000 in
theorem c_DefinedA {v0 : Value} {s : Sy} {w : World} (hs : SysP s) (h0 : RdSyC w v0 s) :
    Calls Try.prog 10 #[v0] w (NewDf w s) := by
  obtain ⟨A, n, c, B, m, d, rfl, ha, hb⟩ := h0
  have HA := Lib.hid ha
  have HB := Lib.hid hb
  have HS := Lib.hid hs
  clear ha hb hs
  go_enter Try.func10, Try.ntmps10
  go_wp2_with fail
  (with_reducible refine (show Calls Try.prog 35 #[.agg #[.slice A n c, .slice B m d]] _ _ from (c_sSystemOk (RdSyK.mk (RI.ext HA.out (by exact extX)) (RR.ext HB.out (by exact extX)))).mono ?_))
  rintro e w2 ⟨rfl, hE2⟩
  rw [sysOk_iff.2 HS.out]
  have hb2 : w2.cell? ⟨w.heap.size, 0, none⟩ = some (.slice A n c) := Ext.keep hE2 (by simp [go_sem])
  have hb3 : w2.cell? ⟨w.heap.size, 1, none⟩ = some (.slice B m d) := Ext.keep hE2 (by simp [go_sem])
  go_wp2_with fail
  (with_reducible refine (c_l6Defined (RdSyK.mk (RI.ext HA.out (by exact extX)) (RR.ext HB.out (by exact extX))) HS.out).mono ?_)
  rintro e w3 ⟨A3, n3, c3, ys, rfl, hr3, hh3, hE3⟩
  have HR3 := Lib.hid hr3
  have HH3 := Lib.hid hh3
  clear hr3 hh3
  go_wp2
  go_ret
  exact ⟨_, _, _, ys, rfl, HR3.out, HH3.out, by exact extX⟩

end Go.Proofs.Ytlcneilmnbnedaa
