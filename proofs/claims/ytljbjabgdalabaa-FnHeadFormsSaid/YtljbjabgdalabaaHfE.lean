/- Several texts in one: FormS, FormT, FormU, FormV, FormW, FormX. -/
import Derived.Test.YtljbjabgdalabaaFormF
import Derived.Test.YtljbjabgdalabaaParts
import Derived.Test.YtljbjabgdalabaaHeld
import Derived.Test.YtljbjabgdalabaaPG
import Derived.StillTailTactics
import Derived.Test.YtljbjabgdalabaaMFormS
-- rd: RdPl RdPs
namespace Go.Proofs.Ytljbjabgdalabaa
open Go.RowKit
set_option linter.unusedSimpArgs false
set_option linter.unusedVariables false

/-! Forms, by the reference. -/
set_option maxRecDepth 100000 in
set_option maxHeartbeats 2000000 in
theorem c_l15Most {v0 v1 : Value} {a b : Pl} {w : World} (h0 : RdPl w v0 a) (h1 : RdPl w v1 b) (hnn : ∀ y ∈ b.cf, 0 ≤ y) :
    Calls Try.prog 84 #[v0, v1] w fun e w' => e = .returned (.bool (most a b)) ∧ Ext w w' := by
  obtain ⟨A, n, c, rfl, ha⟩ := h0
  obtain ⟨B, m, d, rfl, hb⟩ := h1
  have hn := ha.le
  have hm := hb.le
  have HL := Lib.hid ha.len
  have HM := Lib.hid hb.len
  have HA := Lib.hid ha
  have HB := Lib.hid hb
  have HNN := Lib.hid hnn
  clear ha hb hnn
  go_enter Try.func84, Try.ntmps84
  go_wp2_with fail
  obtain ⟨wo, hwo⟩ : ∃ wo, wo = (w.alloc (.cells #[.int .i64 a.c, .slice A n c] 38)).alloc (.cells #[.int .i64 b.c, .slice B m d] 38) := ⟨_, rfl⟩
  have hw1 : wo.cell? ⟨w.heap.size, 1, none⟩ = some (.slice A n c) := by rw [hwo]; simp [go_sem]
  have hw3 : wo.cell? ⟨w.heap.size + 1, 1, none⟩ = some (.slice B m d) := by rw [hwo]; simp [go_sem]
  have hEo : Ext w wo := by rw [hwo]; exact extX
  rw [← hwo]
  clear hwo
  go_loopw [5] (fun i wr => ∃ k : Nat, i = .int .i64 k ∧ k ≤ n ∧ Hid (∀ (j : Nat) (x : Int), j < k → a.cf[j]? = some x → x ≤ nth b.cf j) ∧ Ext wo wr) (fun i _ => n - (intOf i).toNat)
  case atStart => exact ⟨0, rfl, Nat.zero_le _, Lib.hid fun j x hj => by omega, Ext.refl _⟩
  case round =>
    obtain ⟨k, rfl, hk, hp, hE⟩ := hrel
    have hEw : Ext w wr := Ext.trans hEo hE
    have hr1 := Ext.keep hE hw1
    have hr3 := Ext.keep hE hw3
    by_cases hlt : k < n
    · obtain ⟨b', o', x, rfl, hx, hcx⟩ := RI.at_ (RI.ext HA.out hEw) hlt
      have HX := Lib.hid hx
      clear hx
      have hki : (k : Int) < (n : Int) := by omega
      have hk0 : (0 : Int) ≤ (k : Int) := by omega
      have hstep := fun (hxb : x ≤ nth b.cf k) => Lib.hid (show ∀ (j : Nat) (y : Int), j < k + 1 → a.cf[j]? = some y → y ≤ nth b.cf j from fun j y hj e => by
          rcases Nat.lt_or_ge j k with h | h
          · exact hp.out j y h e
          · obtain rfl : j = k := by omega
            rw [HX.out] at e; cases e; exact hxb)
      have HST := Lib.hid hstep
      clear hstep
      by_cases hx0 : 0 < x
      · have hd0 : decide (0 < x) = true := by simpa using hx0
        by_cases hkm : k < m
        · have hd1 : decide ((m : Int) ≤ (k : Int)) = false := by simp; omega
          obtain ⟨b2, o2, y, rfl, hy, hcy⟩ := RI.at_ (RI.ext HB.out hEw) hkm
          have HY := Lib.hid (getD_at hy)
          clear hy
          have hkmi : (k : Int) < (m : Int) := by omega
          by_cases hxy : y < x
          · have hd2 : decide (y < x) = true := by simpa using hxy
            have HR := Lib.hid (most_f (a := a) (b := b) HX.out (by rw [HY.out]; exact hxy))
            go_wp2_with fail
            go_quiet (fail)
            go_wp2
            go_ret
            exact ⟨ret_bool HR.out.symm, by exact extX⟩
          · have hd2 : decide (y < x) = false := by simpa using hxy
            have HP := HST.out (by rw [HY.out]; omega)
            go_wp2_with fail
            go_quiet (fail)
            go_wp2
            go_roundw
            case rel => exact ⟨k + 1, by go_num, by omega, HP, by exact extX⟩
            case measure => simp only [intOf]; omega
        · have hd1 : decide ((m : Int) ≤ (k : Int)) = true := by simp; omega
          have HR := Lib.hid (most_f (a := a) (b := b) HX.out (by rw [getD_past (by rw [HM.out]; omega)]; exact hx0))
          go_wp2_with fail
          go_quiet (fail)
          go_wp2
          go_ret
          exact ⟨ret_bool HR.out.symm, by exact extX⟩
      · have hd0 : decide (0 < x) = false := by simpa using hx0
        have HP := HST.out (by
          have : 0 ≤ nth b.cf k := by
            rcases hj : b.cf[k]? with _ | y
            · unfold nth; rw [List.getD_eq_getElem?_getD, hj]; simp
            · rw [getD_at hj]; exact HNN.out y (List.mem_of_getElem? hj)
          omega)
        go_wp2_with fail
        go_quiet (fail)
        go_wp2
        go_roundw
        case rel => exact ⟨k + 1, by go_num, by omega, HP, by exact extX⟩
        case measure => simp only [intOf]; omega
    · have HR := Lib.hid (most_t (a := a) (b := b) fun j x hj e => hp.out j x (by rw [HL.out] at hj; omega) e)
      go_wp2
      go_ret
      exact ⟨ret_bool HR.out.symm, by exact extX⟩

/-! Forms, by the reference: a form added. -/
/-- A form to which another one was added so many times; false where a number is too great. -/
def NewAdd (w : World) (f : Pl) (e : Ending) (w' : World) : Prop := ∃ (x : Int) (A : Option Addr) (n c : Nat) (xs : List Int) (ok : Bool), e = .returned (.tuple #[.agg #[.int .i64 x, .slice A n c], .bool ok]) ∧ OwI w' w.heap.size A n c xs ∧ (ok = true ↔ ¬ Big f) ∧ (ok = true → x = f.c ∧ xs = f.cf) ∧ Ext w w'
set_option maxRecDepth 100000 in
set_option maxHeartbeats 2000000 in
theorem c_l15Add {v0 v1 : Value} {a b : Pl} {m : Int} {w : World} (h0 : RdPl w v0 a) (h1 : RdPl w v1 b) (ha : Fm a) (hb : Fm b) (hm : 0 ≤ m ∧ m ≤ 9) :
    Calls Try.prog 82 #[v0, v1, .int .i64 m] w (NewAdd w (addP a b m)) := by
  obtain ⟨A, n, c, rfl, ra⟩ := h0
  obtain ⟨B, l, d, rfl, rb⟩ := h1
  have hn : n ≤ 24 := by rw [← ra.len]; exact ha.2
  have hl : l ≤ 24 := by rw [← rb.len]; exact hb.2
  have HA := Lib.hid ra
  have HB := Lib.hid rb
  have hac := ha.1.1
  have hbc := mul_bd hm hb.1.1
  have HFA := Lib.hid (fun j => ha.1.getD (by omega) j)
  have HFB := Lib.hid (fun j => hb.1.getD (by omega) j)
  obtain ⟨i0, hii, hiz, his, hib⟩ := info_parts int64_info
  clear ra rb ha hb
  have hz1 : IntKind.i64.wrap (m * b.c) = m * b.c := IntWalk.i64_in _ (by omega)
  have hz2 : IntKind.i64.wrap (a.c + m * b.c) = a.c + m * b.c := IntWalk.i64_in _ (by omega)
  go_enter Try.func82, Try.ntmps82
  go_wp2_with fail
  obtain ⟨w1, hw1⟩ : ∃ w1, w1 = ((w.alloc (.cells #[.int .i64 a.c, .slice A n c] 38)).alloc (.cells #[.int .i64 b.c, .slice B l d] 38)).alloc (.cells #[.int .i64 0, .slice none 0 0] 38) := ⟨_, rfl⟩
  have hs0 : w1.cell? ⟨w.heap.size, 0, none⟩ = some (.int .i64 a.c) := by rw [hw1]; simp [go_sem]
  have hs1 : w1.cell? ⟨w.heap.size, 1, none⟩ = some (.slice A n c) := by rw [hw1]; simp [go_sem]
  have hs2 : w1.cell? ⟨w.heap.size + 1, 0, none⟩ = some (.int .i64 b.c) := by rw [hw1]; simp [go_sem]
  have hs3 : w1.cell? ⟨w.heap.size + 1, 1, none⟩ = some (.slice B l d) := by rw [hw1]; simp [go_sem]
  have hs4 : w1.cell? ⟨w.heap.size + 1 + 1, 0, none⟩ = some (.int .i64 0) := by rw [hw1]; simp [go_sem]
  have hs5 : w1.cell? ⟨w.heap.size + 1 + 1, 1, none⟩ = some (.slice none 0 0) := by rw [hw1]; simp [go_sem]
  have hs6 : ∀ o, w1.frozen? ⟨w.heap.size + 1 + 1, o, none⟩ = false := by intro o; rw [hw1]; simp [go_sem]
  have hE1 : Ext w w1 := by rw [hw1]; exact extX
  have hsz : w.heap.size + 1 + 1 < w1.heap.size := by rw [hw1]; simp [go_sem]
  rw [← hw1]
  clear hw1
  refine wp_only (R := fun (a0 : Act) (a8 : Act) (w9 : World) => ∃ (g : Nat) (e2 : Nat) (A2 : Option Addr) (c2 : Nat), a8 = (((((((((((((a0.put (some 8) (.pointer (some ⟨g, 0, none⟩))).put (some 11) (.pointer (some ⟨w.heap.size, 0, none⟩))).put (some 12) (.int .i64 a.c)).put (some 13) (.int .i64 m)).put (some 14) (.pointer (some ⟨w.heap.size + 1, 0, none⟩))).put (some 15) (.int .i64 b.c)).put (some 16) (.int .i64 (m * b.c))).put (some 17) (.int .i64 (a.c + m * b.c))).put (some 18) (.slice (some ⟨e2, 0, none⟩) 0 0)).put (some 19) (.pointer (some ⟨w.heap.size, 1, none⟩))).put (some 20) (.slice A n c)).put (some 21) (.slice A2 n c2)).put (some 22) (.agg #[.int .i64 (a.c + m * b.c), .slice A2 n c2])) ∧ PG w1 w9 g (a.c + m * b.c) A2 c2 a.cf) ?_ (fun a8 w2 hR => ?_)
  · refine wp_region_held_drew (S := (fun w' => Ext w1 w')) (by kernel_rfl) ((Ext.refl w1).drew) (fun hH => ?_)
    refine wpAnyH_take_dst (i := 0) (v := .pointer (some ⟨w.heap.size, 0, none⟩)) (d := some 11) rfl rfl (by kernel_rfl) (by kernel_rfl) (by kernel_rfl) (fun _ _ _ h => h) (Or.inl ⟨by rfl, ?_⟩) hH ?_
    · (intro w' hE'; (try dsimp only at hE'); have x0 := Ext.keep hE' hs0; have x1 := Ext.keep hE' hs1; have x2 := Ext.keep hE' hs2; go_simp; try with_reducible rfl)
    try simp only [Act.put, List.setIfInBounds_toArray, List.set_cons_zero, List.set_cons_succ]
    refine wpAnyH_take_dst (i := 1) (v := .int .i64 a.c) (d := some 12) rfl rfl (by kernel_rfl) (by kernel_rfl) (by kernel_rfl) (fun _ _ _ h => h) (Or.inl ⟨by rfl, ?_⟩) hH ?_
    · (intro w' hE'; (try dsimp only at hE'); have x0 := Ext.keep hE' hs0; have x1 := Ext.keep hE' hs1; have x2 := Ext.keep hE' hs2; go_simp; try with_reducible rfl)
    try simp only [Act.put, List.setIfInBounds_toArray, List.set_cons_zero, List.set_cons_succ]
    refine wpAnyH_take_dst (i := 2) (v := .int .i64 m) (d := some 13) rfl rfl (by kernel_rfl) (by kernel_rfl) (by kernel_rfl) (fun _ _ _ h => h) (Or.inl ⟨by rfl, ?_⟩) hH ?_
    · (intro w' hE'; (try dsimp only at hE'); have x0 := Ext.keep hE' hs0; have x1 := Ext.keep hE' hs1; have x2 := Ext.keep hE' hs2; go_simp; try with_reducible rfl)
    try simp only [Act.put, List.setIfInBounds_toArray, List.set_cons_zero, List.set_cons_succ]
    refine wpAnyH_take_dst (i := 3) (v := .pointer (some ⟨w.heap.size + 1, 0, none⟩)) (d := some 14) rfl rfl (by kernel_rfl) (by kernel_rfl) (by kernel_rfl) (fun _ _ _ h => h) (Or.inl ⟨by rfl, ?_⟩) hH ?_
    · (intro w' hE'; (try dsimp only at hE'); have x0 := Ext.keep hE' hs0; have x1 := Ext.keep hE' hs1; have x2 := Ext.keep hE' hs2; go_simp; try with_reducible rfl)
    try simp only [Act.put, List.setIfInBounds_toArray, List.set_cons_zero, List.set_cons_succ]
    refine wpAnyH_take_dst (i := 4) (v := .int .i64 b.c) (d := some 15) rfl rfl (by kernel_rfl) (by kernel_rfl) (by kernel_rfl) (fun _ _ _ h => h) (Or.inl ⟨by rfl, ?_⟩) hH ?_
    · (intro w' hE'; (try dsimp only at hE'); have x0 := Ext.keep hE' hs0; have x1 := Ext.keep hE' hs1; have x2 := Ext.keep hE' hs2; go_simp; try with_reducible rfl)
    try simp only [Act.put, List.setIfInBounds_toArray, List.set_cons_zero, List.set_cons_succ]
    refine wpAnyH_take_dst (i := 5) (v := .int .i64 (m * b.c)) (d := some 16) rfl rfl (by kernel_rfl) (by kernel_rfl) (by kernel_rfl) (fun _ _ _ h => h) (Or.inl ⟨by rfl, ?_⟩) hH ?_
    · (intro w' hE'; (try dsimp only at hE'); have x0 := Ext.keep hE' hs0; have x1 := Ext.keep hE' hs1; have x2 := Ext.keep hE' hs2; go_simp; try with_reducible rfl)
    try simp only [Act.put, List.setIfInBounds_toArray, List.set_cons_zero, List.set_cons_succ]
    refine wpAnyH_take_dst (i := 6) (v := .int .i64 (a.c + m * b.c)) (d := some 17) rfl rfl (by kernel_rfl) (by kernel_rfl) (by kernel_rfl) (fun _ _ _ h => h) (Or.inl ⟨by rfl, ?_⟩) hH ?_
    · (intro w' hE'; (try dsimp only at hE'); have x0 := Ext.keep hE' hs0; have x1 := Ext.keep hE' hs1; have x2 := Ext.keep hE' hs2; go_simp; try with_reducible rfl)
    try simp only [Act.put, List.setIfInBounds_toArray, List.set_cons_zero, List.set_cons_succ]
    refine wpAnyH_take_dst (i := 8) (v := .pointer (some ⟨w.heap.size, 1, none⟩)) (d := some 19) rfl rfl (by kernel_rfl) (by kernel_rfl) (by kernel_rfl) (fun _ _ _ h => h) (Or.inl ⟨by rfl, ?_⟩) hH ?_
    · (intro w' hE'; (try dsimp only at hE'); have x0 := Ext.keep hE' hs0; have x1 := Ext.keep hE' hs1; have x2 := Ext.keep hE' hs2; go_simp; try with_reducible rfl)
    try simp only [Act.put, List.setIfInBounds_toArray, List.set_cons_zero, List.set_cons_succ]
    refine wpAnyH_take_dst (i := 9) (v := .slice A n c) (d := some 20) rfl rfl (by kernel_rfl) (by kernel_rfl) (by kernel_rfl) (fun _ _ _ h => h) (Or.inl ⟨by rfl, ?_⟩) hH ?_
    · (intro w' hE'; (try dsimp only at hE'); have x0 := Ext.keep hE' hs0; have x1 := Ext.keep hE' hs1; have x2 := Ext.keep hE' hs2; go_simp; try with_reducible rfl)
    try simp only [Act.put, List.setIfInBounds_toArray, List.set_cons_zero, List.set_cons_succ]
    refine wpAnyH_ready (rs := [7, 12]) (by kernel_rfl) (by simp) ?_
    refine AllReadyH.cons rfl (fun K hK => ?_) (AllReadyH.cons rfl (fun K hK => ?_) (AllReadyH.nil))
    · rw [if_pos (by rfl)]
      go_wp2_with fail
      refine hK.out _ _ (hH.alloc _) (fun hH9 => ?_)
      clear hK; have hH0 := hH; clear hH; have hH := hH9; clear hH9
      try simp only [Act.put, List.setIfInBounds_toArray, List.set_cons_zero, List.set_cons_succ]
      refine wpAnyH_ready (rs := [10, 12]) (by kernel_rfl) (by simp) ?_
      refine AllReadyH.cons rfl (fun K hK => ?_) (AllReadyH.cons rfl (fun K hK => ?_) (AllReadyH.nil))
      · rw [if_pos (by rfl)]
        refine wp_append_new (.tmp 18) (.tmp 20) 27 rfl i0 Try.underlying27 hii hiz his hib (D := w1.heap.size) rfl ((OwI.none0 (Nat.le_refl _)).ext ((Ext.refl _).drew)) rfl (RI.ext HA.out (Ext.trans hE1 hH)) (by go_size) (fun A2 c2 w9 hO9 hg9 hat9 => ?_)
        refine hK.out _ _ (Ext.grown hH hg9 (fun k hk => by cases hk; exact Nat.le_refl _)) (fun hH9 => ?_)
        clear hK; have hH0 := hH; clear hH; have hH := hH9; clear hH9
        try simp only [Act.put, List.setIfInBounds_toArray, List.set_cons_zero, List.set_cons_succ]
        refine wpAnyH_take_dst (i := 11) (v := .agg #[.int .i64 (a.c + m * b.c), .slice A2 n c2]) (d := some 22) rfl rfl (by kernel_rfl) (by kernel_rfl) (by kernel_rfl) (fun _ _ _ h => h) (Or.inl ⟨by rfl, ?_⟩) hH ?_
        · (intro w' hE'; (try dsimp only at hE'); have x0 := Ext.keep hE' hs0; have x1 := Ext.keep hE' hs1; have x2 := Ext.keep hE' hs2; go_simp; try with_reducible rfl)
        try simp only [Act.put, List.setIfInBounds_toArray, List.set_cons_zero, List.set_cons_succ]
        refine wpAnyH_ready (rs := [12]) (by kernel_rfl) (by simp) ?_
        refine AllReadyH.cons rfl (fun K hK => ?_) AllReadyH.nil
        rw [if_pos (by rfl)]
        go_wp2_with fail
        refine hK.out _ _ (hH.alloc _) (fun hH9 => ?_)
        clear hK; have hH0 := hH; clear hH; have hH := hH9; clear hH9
        try simp only [Act.put, List.setIfInBounds_toArray, List.set_cons_zero, List.set_cons_succ]
        refine wpAnyH_ready (rs := [13]) (by kernel_rfl) (by simp) ?_
        refine AllReadyH.cons rfl (fun K hK => ?_) AllReadyH.nil
        rw [if_pos (by rfl)]
        go_wp2_with fail
        refine hK.out _ _ (hH0.alloc _) (fun hH9 => ?_)
        clear hK; have hH0 := hH; clear hH; have hH := hH9; clear hH9
        try simp only [Act.put, List.setIfInBounds_toArray, List.set_cons_zero, List.set_cons_succ]
        refine wpAnyH_done (by kernel_rfl) ?_ _
        refine ⟨w9.heap.size, w1.heap.size, A2, c2, by rfl, PG.of (by rw [HA.out.len]) (by simp [go_sem]) (by simp [go_sem]) (by intro j; simp [go_sem]) (hO9.alloc _) (fun b o s e => ?_) (by have := hg9.size; simp [go_sem] at this; omega) hH⟩
        have := (hO9.bd b o s e).2; omega
      · rw [if_pos (by rfl)]
        go_wp2_with fail
        refine hK.out _ _ (hH.alloc _) (fun hH9 => ?_)
        clear hK; have hH0 := hH; clear hH; have hH := hH9; clear hH9
        try simp only [Act.put, List.setIfInBounds_toArray, List.set_cons_zero, List.set_cons_succ]
        refine wpAnyH_ready (rs := [10]) (by kernel_rfl) (by simp) ?_
        refine AllReadyH.cons rfl (fun K hK => ?_) AllReadyH.nil
        rw [if_pos (by rfl)]
        refine wp_append_new (.tmp 18) (.tmp 20) 27 rfl i0 Try.underlying27 hii hiz his hib (D := w1.heap.size) rfl ((OwI.none0 (Nat.le_refl _)).ext (Ext.drew (Ext.alloc (Ext.refl _) _))) rfl (RI.ext HA.out (Ext.trans hE1 hH)) (by go_size) (fun A2 c2 w9 hO9 hg9 hat9 => ?_)
        refine hK.out _ _ (Ext.grown hH hg9 (fun k hk => by cases hk; exact Nat.le_refl _)) (fun hH9 => ?_)
        clear hK; have hH0 := hH; clear hH; have hH := hH9; clear hH9
        try simp only [Act.put, List.setIfInBounds_toArray, List.set_cons_zero, List.set_cons_succ]
        refine wpAnyH_take_dst (i := 11) (v := .agg #[.int .i64 (a.c + m * b.c), .slice A2 n c2]) (d := some 22) rfl rfl (by kernel_rfl) (by kernel_rfl) (by kernel_rfl) (fun _ _ _ h => h) (Or.inl ⟨by rfl, ?_⟩) hH ?_
        · (intro w' hE'; (try dsimp only at hE'); have x0 := Ext.keep hE' hs0; have x1 := Ext.keep hE' hs1; have x2 := Ext.keep hE' hs2; go_simp; try with_reducible rfl)
        try simp only [Act.put, List.setIfInBounds_toArray, List.set_cons_zero, List.set_cons_succ]
        refine wpAnyH_ready (rs := [13]) (by kernel_rfl) (by simp) ?_
        refine AllReadyH.cons rfl (fun K hK => ?_) AllReadyH.nil
        rw [if_pos (by rfl)]
        obtain ⟨k0, k1, kf⟩ := box_grown hg9 (q := w1.heap.size + 1) (u := .int .i64 0) (v := .slice none 0 0) (by simp) (by simp [go_sem]) (by simp [go_sem]) (by intro j; simp [go_sem]); go_wp2_with fail
        refine hK.out _ _ ((hH.set (Nat.le_succ _) _).set (Nat.le_succ _) _) (fun hH9 => ?_)
        clear hK; have hH0 := hH; clear hH; have hH := hH9; clear hH9
        try simp only [Act.put, List.setIfInBounds_toArray, List.set_cons_zero, List.set_cons_succ]
        refine wpAnyH_done (by kernel_rfl) ?_ _
        refine ⟨w1.heap.size + 1, w1.heap.size, A2, c2, by rfl, PG.put (by rw [HA.out.len]) k0 k1 kf hO9 (fun b o s e => ?_) (Nat.le_succ _) hH0⟩
        have := hat9 b o s e; simp [go_sem] at this; omega
    · rw [if_pos (by rfl)]
      go_wp2_with fail
      refine hK.out _ _ (hH.alloc _) (fun hH9 => ?_)
      clear hK; have hH0 := hH; clear hH; have hH := hH9; clear hH9
      try simp only [Act.put, List.setIfInBounds_toArray, List.set_cons_zero, List.set_cons_succ]
      refine wpAnyH_ready (rs := [7]) (by kernel_rfl) (by simp) ?_
      refine AllReadyH.cons rfl (fun K hK => ?_) AllReadyH.nil
      rw [if_pos (by rfl)]
      go_wp2_with fail
      refine hK.out _ _ (hH.alloc _) (fun hH9 => ?_)
      clear hK; have hH0 := hH; clear hH; have hH := hH9; clear hH9
      try simp only [Act.put, List.setIfInBounds_toArray, List.set_cons_zero, List.set_cons_succ]
      refine wpAnyH_ready (rs := [10]) (by kernel_rfl) (by simp) ?_
      refine AllReadyH.cons rfl (fun K hK => ?_) AllReadyH.nil
      rw [if_pos (by rfl)]
      refine wp_append_new (.tmp 18) (.tmp 20) 27 rfl i0 Try.underlying27 hii hiz his hib (D := w1.heap.size) (g := w1.heap.size + 1) rfl (by have := OwI.none0 (w := w1.alloc (.cells #[.int .i64 0, .slice none 0 0] 38)) (D := w1.heap.size) (by simp [go_sem]); simp only [World.size_alloc] at this; exact this.ext ((Ext.refl _).drew)) rfl (RI.ext HA.out (Ext.trans hE1 hH)) (by go_size) (fun A2 c2 w9 hO9 hg9 hat9 => ?_)
      refine hK.out _ _ (Ext.grown hH hg9 (fun k hk => by cases hk; exact Nat.le_succ _)) (fun hH9 => ?_)
      clear hK; have hH0 := hH; clear hH; have hH := hH9; clear hH9
      try simp only [Act.put, List.setIfInBounds_toArray, List.set_cons_zero, List.set_cons_succ]
      refine wpAnyH_take_dst (i := 11) (v := .agg #[.int .i64 (a.c + m * b.c), .slice A2 n c2]) (d := some 22) rfl rfl (by kernel_rfl) (by kernel_rfl) (by kernel_rfl) (fun _ _ _ h => h) (Or.inl ⟨by rfl, ?_⟩) hH ?_
      · (intro w' hE'; (try dsimp only at hE'); have x0 := Ext.keep hE' hs0; have x1 := Ext.keep hE' hs1; have x2 := Ext.keep hE' hs2; go_simp; try with_reducible rfl)
      try simp only [Act.put, List.setIfInBounds_toArray, List.set_cons_zero, List.set_cons_succ]
      refine wpAnyH_ready (rs := [13]) (by kernel_rfl) (by simp) ?_
      refine AllReadyH.cons rfl (fun K hK => ?_) AllReadyH.nil
      rw [if_pos (by rfl)]
      obtain ⟨k0, k1, kf⟩ := box_grown hg9 (q := w1.heap.size) (u := .int .i64 0) (v := .slice none 0 0) (by simp) (by simp [go_sem]) (by simp [go_sem]) (by intro j; simp [go_sem]); go_wp2_with fail
      refine hK.out _ _ ((hH.set (Nat.le_refl _) _).set (Nat.le_refl _) _) (fun hH9 => ?_)
      clear hK; have hH0 := hH; clear hH; have hH := hH9; clear hH9
      try simp only [Act.put, List.setIfInBounds_toArray, List.set_cons_zero, List.set_cons_succ]
      refine wpAnyH_done (by kernel_rfl) ?_ _
      refine ⟨w1.heap.size, w1.heap.size + 1, A2, c2, by rfl, PG.put (by rw [HA.out.len]) k0 k1 kf hO9 (fun b o s e => ?_) (Nat.le_refl _) hH0⟩
      have := hat9 b o s e; simp [go_sem] at this; omega
  obtain ⟨g, e2, A2, c2, ha, P2⟩ := hR
  simp only [Act.put, List.setIfInBounds_toArray, List.set_cons_zero, List.set_cons_succ] at ha
  subst ha
  clear hs0 hs1 hs2
  obtain ⟨C, hC⟩ : ∃ C, C = a.c + m * b.c := ⟨_, rfl⟩
  rw [← hC] at P2 ⊢
  have HC := Lib.hid hC
  clear hC hz1 hz2
  go_wp2_with fail
  go_loopw [9] (fun i wr => ∃ k : Nat, i = .int .i64 k ∧ k ≤ l ∧ Hid (∃ A cA ys, PG w1 wr g C A cA ys ∧ ys = addL a.cf (b.cf.take k) m)) (fun i _ => l - (intOf i).toNat)
  case atStart => exact ⟨0, rfl, Nat.zero_le _, Lib.hid ⟨A2, c2, a.cf, P2, by rw [List.take_zero, addL_nil]⟩⟩
  case round =>
    obtain ⟨k, rfl, hk, hP0⟩ := hrel
    obtain ⟨A3, c3, ys, P3, hys⟩ := hP0.out
    clear hP0
    have hr3 := Ext.keep P3.ex hs3
    have hEr : Ext w1 wr := P3.ex
    have hEsz := hEr.size
    have hEw : Ext w wr := Ext.trans hE1 hEr
    have hyl : ys.length ≤ 24 := by rw [hys, addL_len, HA.out.len, List.length_take]; omega
    have h30 := P3.c0
    have h31 := P3.c1
    have h3f := P3.fr
    have hglt := P3.lt
    by_cases hlt : k < l
    · obtain ⟨b', o', y, rfl, hy, hcyw⟩ := RI.at_ HB.out hlt
      have hcy := Ext.keep hEw hcyw
      have hyb := HFB.out k
      rw [getD_at' hy] at hyb
      have hmy := mul_bd hm hyb
      have hkl : (k : Int) < (l : Int) := by omega
      have hk0 : (0 : Int) ≤ (k : Int) := by omega
      have hSN := addL_snoc (al := a.cf) (m := m) hy hys
      have HY := Lib.hid hy
      have HYS := Lib.hid hys
      have HSN := Lib.hid hSN
      clear hy hys hSN
      have hz3 : IntKind.i64.wrap (m * y) = m * y := IntWalk.i64_in _ (by omega)
      by_cases hin : k < ys.length
      · obtain ⟨b3, o3, z, rfl, hzz, hcz⟩ := RI.at_ P3.oA.ri hin
        have hzb : 0 ≤ z ∧ z ≤ 1000000000000 := by
          have h1 := addL_get a.cf (b.cf.take k) m k
          rw [← HYS.out, getD_at' hzz, List.getD_eq_getElem?_getD (l := List.take _ _), List.getElem?_take_eq_none (Nat.le_refl _)] at h1
          have h2 := HFA.out k
          simp only [Option.getD_none, Int.mul_zero, Int.add_zero] at h1
          omega
        have hz4 : IntKind.i64.wrap (z + m * y) = z + m * y := IntWalk.i64_in _ (by omega)
        have hin' : (k : Int) < (ys.length : Int) := by omega
        have ho3 : o3 = 0 := by rcases P3.oA.form with ⟨h, _⟩ | ⟨g', h, _⟩ <;> cases h; rfl
        subst ho3
        rw [Nat.zero_add] at hcz
        obtain ⟨z', hz', _, hfz⟩ := OwI.at_ P3.oA hin
        have HP := Lib.hid (P3.setE k (z + m * y))
        have HZ := Lib.hid (getD_at' hzz)
        clear hzz hz' P3
        go_wp2_with fail
        go_still_tail 16, (by kernel_rfl)
        change wpList _ _ _ _ _ wr.drew
        go_wp2_with fail
        go_roundw
        case rel => exact ⟨k + 1, by go_num, by omega, Lib.hid ⟨_, _, _, HP.out.ext (Ext.drew (Ext.refl _)), by rw [HSN.out, if_pos hin, HZ.out]⟩⟩
        case measure => simp only [intOf]; omega
      · have hyk : ys.length = k := by rw [HYS.out, addL_len, List.length_take, HB.out.len] at hin ⊢; omega
        have HP := Lib.hid P3
        have HO := Lib.hid (show OwI wr w1.heap.size A3 k c3 ys by rw [← hyk]; exact P3.oA)
        have HYK := Lib.hid hyk
        rw [hyk] at h31
        have hk24 : k ≤ 24 := by omega
        clear P3 hyk hyl hin
        go_wp2_with (at_builtin; go_loud (refine wpList_append_lies _ rfl (.tmp 36) (.tmp 37) 27 rfl w1.heap.size 2 i0 (.int .i64 0) 1 8 Try.underlying27 hii hiz his hib rfl (by decide) _ _ _ rfl (OwI.alloc HO.out _).2 ⟨wr.heap.size, 0, none⟩ 1 1 [.int .i64 0] rfl rfl (one_cells _ _ _) (one_one _) (by decide) (by unfold maxLen; omega) (by omega) (by go_size) _ rfl ?_))
        intro g4 cap wx hown hg hat hltg
        have HFar := Lib.hid (PG.far HP.out (by rw [HYK.out]; exact hg))
        have HGR := Lib.hid (PG.grown HP.out (by rw [HYK.out]; exact hg))
        have hx0 : wx.cell? ⟨g, 1, none⟩ = some (.slice A3 k c3) := (HFar.out.1 1).trans h31
        have hxf : ∀ j, wx.frozen? ⟨g, j, none⟩ = false := HFar.out.2
        have hxb := Ext.keep HGR.out hs3
        have hxy := Ext.keep (Ext.trans hE1 HGR.out) hcyw
        have P4 := PG.push HP.out (y := 0) (by rw [HYK.out]; omega) (by rw [HYK.out]; exact hown) (by rw [HYK.out]; exact hg) (by rw [HYK.out]; exact hat.imp id (fun e => e.trans (by simp [go_sem]))) hltg
        rw [HYK.out] at P4
        clear hown hg hat
        go_wp2_with fail
        obtain ⟨wq, hwq⟩ : ∃ wq, wq = wx.setCell ⟨g, 1, none⟩ (.slice (some ⟨g4, 0, none⟩) (k + 1) cap) := ⟨_, rfl⟩
        rw [← hwq] at P4 ⊢
        have hr4 := Ext.keep P4.ex hs3
        have hEq := P4.ex
        have hq1 := P4.c1
        have hqf := P4.fr
        have hql := P4.lt
        have hcq := Ext.keep (Ext.trans hE1 hEq) hcyw
        rw [List.length_append, List.length_singleton, HYK.out] at hq1
        obtain ⟨z', hz', hcz, hfz⟩ := OwI.at_ P4.oA (show k < (ys ++ [0]).length by simp [HYK.out])
        have hz0 : z' = 0 := by
          rw [List.getElem?_append_right (by rw [HYK.out]; omega), HYK.out, Nat.sub_self] at hz'; cases hz'; rfl
        subst hz0
        have HP4 := Lib.hid (P4.setE k (m * y))
        obtain ⟨k1, hk1⟩ : ∃ k1, k1 = k + 1 := ⟨_, rfl⟩
        rw [← hk1] at hq1
        have hin4 : (k : Int) < (k1 : Int) := by omega
        have HK1 := Lib.hid hk1
        clear hk1
        clear hwq hx0 hxf hxb hxy P4 hz' h30 h31 h3f hcy hr3
        go_still_tail 16, (by kernel_rfl)
        change wpList _ _ _ _ _ wq.drew
        go_wp2_with fail
        go_roundw
        case rel => exact ⟨k + 1, by go_num, by omega, Lib.hid ⟨_, _, _, HP4.out.ext (Ext.drew (Ext.refl _)), by rw [HSN.out, if_neg (by rw [HYK.out]; omega), Int.zero_add]⟩⟩
        case measure => simp only [intOf]; omega
    · have hkl : k = l := by omega
      have hF : ys = (addP a b m).cf := by
        rw [hys, List.take_of_length_le (by rw [HB.out.len]; omega)]; rfl
      subst hF
      have hgge := P3.ge
      have HP := Lib.hid P3
      have hCF : C = (addP a b m).c := HC.out
      have HCF := Lib.hid hCF
      have HKL := Lib.hid hkl
      clear hCF hkl
      have hEr3 : Ext w1 wr := P3.ex
      have hr4 := Ext.keep hEr hs4
      have hr5 := Ext.keep hEr hs5
      have hr6 : ∀ o, wr.frozen? ⟨w.heap.size + 1 + 1, o, none⟩ = false := fun o => (Below.frozen (p := ⟨w.heap.size + 1 + 1, o, none⟩) hEr (by omega)).trans (hs6 o)
      obtain ⟨zs, hzs⟩ : ∃ zs, zs = (addP a b m).cf := ⟨_, rfl⟩
      rw [← hzs] at h31 hyl P3
      have HZ := Lib.hid hzs
      have HR := Lib.hid P3.oA.ri
      have HO := Lib.hid P3.oA
      clear P3 hys hzs
      have hwsz := hEr.size
      have hge : w.heap.size + 1 + 1 < wr.heap.size := by omega
      obtain ⟨wo, rfl⟩ : ∃ wo : World, wo = wr := ⟨_, rfl⟩
      go_wp2_with fail
      go_loopw [10] (fun i wr => ∃ k : Nat, i = .int .i64 k ∧ k ≤ zs.length ∧ Hid (∀ (j : Nat) (x : Int), j < k → zs[j]? = some x → x ≤ 1000000000000) ∧ Ext wo wr) (fun i _ => zs.length - (intOf i).toNat)
      case atStart => exact ⟨0, rfl, Nat.zero_le _, Lib.hid fun j x hj => by omega, Ext.refl _⟩
      case round =>
        obtain ⟨j, rfl, hj, hall, hE4⟩ := hrel
        have hf1 := Ext.keep hE4 h31
        have hf0 := Ext.keep hE4 h30
        have hf4 := Ext.keep hE4 hr4
        have hf5 := Ext.keep hE4 hr5
        have hf6 : ∀ o, wr.frozen? ⟨w.heap.size + 1 + 1, o, none⟩ = false := fun o => (Below.frozen (p := ⟨w.heap.size + 1 + 1, o, none⟩) hE4 hge).trans (hr6 o)
        have hEw4 : Ext w wr := Ext.trans hEw hE4
        by_cases hjl : j < zs.length
        · obtain ⟨b5, o5, x, rfl, hx, hcx⟩ := RI.at_ (RI.ext HR.out hE4) hjl
          have HX := Lib.hid hx
          clear hx
          have hji : (j : Int) < (zs.length : Int) := by omega
          have hj0 : (0 : Int) ≤ (j : Int) := by omega
          by_cases hbig : 1000000000000 < x
          · have HBIG : Big (addP a b m) := .inr ⟨x, by rw [← HZ.out]; exact List.mem_of_getElem? HX.out, hbig⟩
            have HBG := Lib.hid HBIG
            clear HBIG
            go_wp2
            refine bodyPost_ret (v := .tuple #[.agg #[.int .i64 0, .slice none 0 0], .bool false]) (by simp [results, Try.results82, go_sem, hf4, hf5, hf6]) rfl ?_
            refine ⟨0, none, 0, 0, [], false, rfl, ⟨by omega, World.ownsRow_nil _ _ _ _⟩, ⟨fun h => (by cases h), fun h => absurd HBG.out h⟩, (fun h => (by cases h)), by exact extX⟩
          · go_wp2
            go_roundw
            case rel => exact ⟨j + 1, by go_num, by omega, Lib.hid (fun t y ht hy => by
              rcases Nat.lt_or_ge t j with h | h
              · exact hall.out t y h hy
              · obtain rfl : t = j := by omega
                rw [HX.out] at hy; cases hy; omega), by exact extX⟩
            case measure => simp only [intOf]; omega
        · go_wp2_with fail
          refine wp_only (R := fun (a0 : Act) (a8 : Act) (w9 : World) => a8 = (((((a0.put (some 71) (.agg #[.int .i64 C, .slice A3 zs.length c3])).put (some 72) (.pointer (some ⟨g, 0, none⟩))).put (some 73) (.int .i64 C)).put (some 74) (.bool (decide (C ≤ 1000000000000)))).put (some 7) (.bool (decide (C ≤ 1000000000000)))) ∧ w9 = ((wr.setCell ⟨w.heap.size + 1 + 1, 0, none⟩ (.int .i64 C)).setCell ⟨w.heap.size + 1 + 1, 1, none⟩ (.slice A3 zs.length c3)).drew) ?_ (fun a8 w5 hR => ?_)
          · refine wp_region_held_drew (S := (fun w' => w'.cell? ⟨g, 0, none⟩ = some (.int .i64 C) ∧ w'.cell? ⟨g, 1, none⟩ = some (.slice A3 zs.length c3))) (by kernel_rfl) (⟨by simpa [go_sem] using hf0, by simpa [go_sem] using hf1⟩) (fun hH => ?_)
            refine wpAnyH_take_dst (i := 0) (v := .agg #[.int .i64 C, .slice A3 zs.length c3]) (d := some 71) rfl rfl (by kernel_rfl) (by kernel_rfl) (by kernel_rfl) (fun _ _ _ h => h) (Or.inl ⟨by rfl, ?_⟩) hH ?_
            · (intro w' hE'; (try dsimp only at hE'); obtain ⟨x0, x1⟩ := hE'; go_simp; try with_reducible rfl)
            try simp only [Act.put, List.setIfInBounds_toArray, List.set_cons_zero, List.set_cons_succ]
            refine wpAnyH_take_dst (i := 1) (v := .pointer (some ⟨g, 0, none⟩)) (d := some 72) rfl rfl (by kernel_rfl) (by kernel_rfl) (by kernel_rfl) (fun _ _ _ h => h) (Or.inl ⟨by rfl, ?_⟩) hH ?_
            · (intro w' hE'; (try dsimp only at hE'); obtain ⟨x0, x1⟩ := hE'; go_simp; try with_reducible rfl)
            try simp only [Act.put, List.setIfInBounds_toArray, List.set_cons_zero, List.set_cons_succ]
            refine wpAnyH_take_dst (i := 2) (v := .int .i64 C) (d := some 73) rfl rfl (by kernel_rfl) (by kernel_rfl) (by kernel_rfl) (fun _ _ _ h => h) (Or.inl ⟨by rfl, ?_⟩) hH ?_
            · (intro w' hE'; (try dsimp only at hE'); obtain ⟨x0, x1⟩ := hE'; go_simp; try with_reducible rfl)
            try simp only [Act.put, List.setIfInBounds_toArray, List.set_cons_zero, List.set_cons_succ]
            refine wpAnyH_take_dst (i := 3) (v := .bool (decide (C ≤ 1000000000000))) (d := some 74) rfl rfl (by kernel_rfl) (by kernel_rfl) (by kernel_rfl) (fun _ _ _ h => h) (Or.inl ⟨by rfl, ?_⟩) hH ?_
            · (intro w' hE'; (try dsimp only at hE'); obtain ⟨x0, x1⟩ := hE'; go_simp; try with_reducible rfl)
            try simp only [Act.put, List.setIfInBounds_toArray, List.set_cons_zero, List.set_cons_succ]
            refine wpAnyH_ready (rs := [4]) (by kernel_rfl) (by simp) ?_
            refine AllReadyH.cons rfl (fun K hK => ?_) AllReadyH.nil
            rw [if_pos (by rfl)]
            go_wp2_with fail
            refine hK.out _ _ (⟨by show (World.setCell (World.setCell _ _ _) _ _).cell? _ = _; rw [World.cell?_setCell_other _ _ _ _ (by first | (simp; done) | (simp; omega)), World.cell?_setCell_other _ _ _ _ (by first | (simp; done) | (simp; omega))]; exact hH.1, by show (World.setCell (World.setCell _ _ _) _ _).cell? _ = _; rw [World.cell?_setCell_other _ _ _ _ (by first | (simp; done) | (simp; omega)), World.cell?_setCell_other _ _ _ _ (by first | (simp; done) | (simp; omega))]; exact hH.2⟩) (fun hH9 => ?_)
            clear hK; have hH0 := hH; clear hH; have hH := hH9; clear hH9
            try simp only [Act.put, List.setIfInBounds_toArray, List.set_cons_zero, List.set_cons_succ]
            refine wpAnyH_take_dst (i := 5) (v := .bool (decide (C ≤ 1000000000000))) (d := some 7) rfl rfl (by kernel_rfl) (by kernel_rfl) (by kernel_rfl) (fun _ _ _ h => h) (Or.inl ⟨by rfl, ?_⟩) hH ?_
            · (intro w' hE'; (try dsimp only at hE'); obtain ⟨x0, x1⟩ := hE'; go_simp; try with_reducible rfl)
            try simp only [Act.put, List.setIfInBounds_toArray, List.set_cons_zero, List.set_cons_succ]
            refine wpAnyH_done (by kernel_rfl) ?_ _
            exact ⟨by rfl, rfl⟩
          obtain ⟨ha, hw5⟩ := hR
          simp only [Act.put, List.setIfInBounds_toArray, List.set_cons_zero, List.set_cons_succ] at ha
          subst ha
          have hbd := HO.out.bd
          have h5 : OwI w5 w.heap.size A3 zs.length c3 zs := by
            rw [hw5]
            refine OwI.ext (OwI.setFar (OwI.setFar (((HO.out.lower (by omega)).ext hE4)) _ (fun g o s e => ?_)) _ (fun g o s e => ?_)) (Ext.drew (Ext.refl _))
            · have := (hbd g o s e).1; show g ≠ w.heap.size + 1 + 1; omega
            · have := (hbd g o s e).1; show g ≠ w.heap.size + 1 + 1; omega
          have hE5 : Ext w w5 := by
            rw [hw5]
            exact Ext.drew (Ext.set (Ext.set hEw4 (show w.heap.size ≤ w.heap.size + 1 + 1 by omega) _) (show w.heap.size ≤ w.heap.size + 1 + 1 by omega) _)
          have k0 : w5.cell? ⟨w.heap.size + 1 + 1, 0, none⟩ = some (.int .i64 C) := by rw [hw5]; simp [go_sem, hf4, hf5]
          have k1 : w5.cell? ⟨w.heap.size + 1 + 1, 1, none⟩ = some (.slice A3 zs.length c3) := by rw [hw5]; simp [go_sem, hf4, hf5]
          have kf : ∀ o, w5.frozen? ⟨w.heap.size + 1 + 1, o, none⟩ = false := by intro o; rw [hw5]; simp [go_sem, hf6]
          have HW5 := Lib.hid hw5
          have H5 := Lib.hid h5
          have HBD := Lib.hid hbd
          clear hw5 h5 hbd hf0 hf1 hf4 hf5 hf6 h30 h31 hr4 hr5 hr6
          go_wp2_with fail
          refine bodyPost_ret (v := .tuple #[.agg #[.int .i64 C, .slice A3 zs.length c3], .bool (decide (C ≤ 1000000000000))]) (by simp [results, Try.results82, go_sem, k0, k1, kf]) rfl ?_
          have hnb : decide (C ≤ 1000000000000) = true ↔ ¬ Big (addP a b m) := by
            unfold Big
            rw [decide_eq_true_eq, HCF.out, ← HZ.out]
            constructor
            · rintro h (h2 | ⟨x, hx, h2⟩)
              · omega
              · obtain ⟨t, ht, rfl⟩ := List.mem_iff_getElem.1 hx
                have := hall.out t _ (by omega) (List.getElem?_eq_getElem ht)
                omega
            · intro h
              have : ¬ 1000000000000 < (addP a b m).c := fun h2 => h (.inl h2)
              omega
          exact ⟨C, A3, zs.length, c3, zs, _, rfl, H5.out, hnb, fun _ => ⟨HCF.out, HZ.out⟩, hE5⟩

/-! Forms, by the reference: the sum over the arguments. -/
theorem box_ext {w wx : World} {q : Nat} {u v : Value} (hE : Ext w wx) (h0 : w.cell? ⟨q, 0, none⟩ = some u) (h1 : w.cell? ⟨q, 1, none⟩ = some v) (hf : ∀ j, w.frozen? ⟨q, j, none⟩ = false) :
    wx.cell? ⟨q, 0, none⟩ = some u ∧ wx.cell? ⟨q, 1, none⟩ = some v ∧ ∀ j, wx.frozen? ⟨q, j, none⟩ = false :=
  ⟨Ext.keep hE h0, Ext.keep hE h1, fun j => (Below.frozen (p := ⟨q, j, none⟩) hE (by have := World.block_lt_of_cell? w _ h0; exact this)).trans (hf j)⟩
/-- A box under way whose cells are set anew, to a slice that came later. -/
theorem PB.put {w1 wr : World} {x y : Int} {A A' : Option Addr} {cA n c : Nat} {xs ys : List Int} (h : PB w1 wr x A cA xs) (hn : n = ys.length) (hO : OwI wr (w1.heap.size + 1) A' n c ys) :
    PB w1 ((wr.setCell ⟨w1.heap.size, 0, none⟩ (.int .i64 y)).setCell ⟨w1.heap.size, 1, none⟩ (.slice A' n c)) y A' c ys := by
  subst hn
  refine ⟨?_, ?_, fun j => by rw [World.frozen?_setCell, World.frozen?_setCell]; exact h.fr j, ?_, (h.ex.set (Nat.le_refl _) _).set (Nat.le_refl _) _⟩
  · rw [World.cell?_setCell_other _ _ _ _ (by simp)]; exact World.cell?_setCell_same _ _ _ h.c0
  · exact World.cell?_setCell_same _ _ _ (by rw [World.cell?_setCell_other _ _ _ _ (by simp)]; exact h.c1)
  · exact (hO.setFar _ fun g o s e => by have := (hO.bd g o s e).1; show g ≠ w1.heap.size; omega).setFar _ fun g o s e => by have := (hO.bd g o s e).1; show g ≠ w1.heap.size; omega
abbrev FormV (ar : List Int) (ps : List Pl) (u : Tm) (o : Option Pl) : Prop := ∀ (v0 v1 v2 : Value) (w : World), RdSig w v0 ar → RdPs w v1 ps → RdIc w v2 u.flat →
  Calls Try.prog 48 #[v0, v1, v2] w (NewF w o)
set_option maxRecDepth 100000 in
set_option maxHeartbeats 4000000 in
theorem c_l15Sum {v0 v1 v2 : Value} {ar : List Int} {ps : List Pl} {q : Pl} {us : List Tm} {A : Option Addr} {n c : Nat} {w : World} (h0 : RdSig w v0 ar) (h1 : RdPs w v1 ps) (h2 : RdPl w v2 q) (h3 : RS w A n (us.map Tm.flat)) (hn : n = us.length)
    (hq : (0 ≤ q.c ∧ q.c ≤ 9) ∧ ∀ y ∈ q.cf, 0 ≤ y ∧ y ≤ 9) (hql : q.cf.length = us.length) (hu3 : us.length ≤ 3) (hfm : ∀ a ∈ us, ∀ f, form ps a = some f → Fm f) (ih : ∀ a ∈ us, FormV ar ps a (form ps a)) :
    Calls Try.prog 53 #[v0, v1, v2, .slice A n c] w (NewF w ((formL ps us).bind fun fs => appP q fs)) := by
  obtain ⟨As, ns, cs, rfl, ha⟩ := h0
  obtain ⟨B, m, d, rfl, hb⟩ := h1
  obtain ⟨D, l, e, rfl, hd⟩ := h2
  subst hn
  have hlen : l = us.length := by rw [← hd.len, hql]
  subst hlen
  have HA := Lib.hid ha
  have HB := Lib.hid hb
  have HD := Lib.hid hd
  have HS3 := Lib.hid h3
  have HI := Lib.hid ih
  have HQ := Lib.hid hq
  have HFM := Lib.hid hfm
  clear ha hb hd h3 ih hq hfm hql
  go_enter Try.func53, Try.ntmps53
  go_wp2_with fail
  obtain ⟨w1, hw1⟩ : ∃ w1, w1 = ((w.alloc (.cells #[.slice As ns cs] 29)).alloc (.cells #[.int .i64 q.c, .slice D us.length e] 38)).alloc (.cells #[.int .i64 0, .slice none 0 0] 38) := ⟨_, rfl⟩
  have hs0 : w1.cell? ⟨w.heap.size, 0, none⟩ = some (.slice As ns cs) := by rw [hw1]; simp [go_sem]
  have hs1 : w1.cell? ⟨w.heap.size + 1, 1, none⟩ = some (.slice D us.length e) := by rw [hw1]; simp [go_sem]
  have hs2 : w1.cell? ⟨w.heap.size + 1 + 1, 0, none⟩ = some (.int .i64 0) := by rw [hw1]; simp [go_sem]
  have hs3 : w1.cell? ⟨w.heap.size + 1 + 1, 1, none⟩ = some (.slice none 0 0) := by rw [hw1]; simp [go_sem]
  have hs4 : ∀ o, w1.frozen? ⟨w.heap.size + 1 + 1, o, none⟩ = false := by intro o; rw [hw1]; simp [go_sem]
  have hE1 : Ext w w1 := by rw [hw1]; exact extX
  rw [← hw1]
  have hs5 : w.heap.size + 1 + 1 + 1 = w1.heap.size := by rw [hw1]; simp [go_sem]
  clear hw1
  try rw [hs5]
  have hlo : w.heap.size + 1 + 1 < w1.heap.size := by omega
  have HS5 := Lib.hid hs5
  clear hs5
  go_loopw [11] (fun i wr => ∃ k : Nat, i = .int .i64 k ∧ k ≤ us.length ∧ Hid (∃ fs A cA, FirstF ps us fs k ∧ ¬ Big (sumTo q fs k) ∧ PB w1 wr (sumTo q fs k).c A cA (sumTo q fs k).cf)) (fun i _ => us.length - (intOf i).toNat)
  case atStart => exact ⟨0, rfl, Nat.zero_le _, Lib.hid ⟨[], none, 0, FirstF.zero _ _, not_big_start HQ.out.1, PB.new w1 q.c _⟩⟩
  case round =>
    obtain ⟨k, rfl, hk, hP0⟩ := hrel
    obtain ⟨fs, A1, cA, hF, hnb, P0⟩ := hP0.out
    clear hP0
    have hE0 : Ext w1 wr := P0.ex
    have hEw : Ext w wr := Ext.trans hE1 hE0
    have hr0 := Ext.keep hE0 hs0
    have HPA := Lib.hid (hF.parts hk HQ.out hu3 HFM.out)
    have HFS := Lib.hid (fm_of_not_big HPA.out hnb)
    have HF := Lib.hid hF
    have HNB := Lib.hid hnb
    obtain ⟨P, hP⟩ : ∃ P, P = sumTo q fs k := ⟨_, rfl⟩
    rw [← hP] at P0 HFS
    have HP := Lib.hid hP
    clear hF hnb hP
    by_cases hlt : k < us.length
    · obtain ⟨a, hak⟩ : ∃ a, us[k]? = some a := ⟨us[k], List.getElem?_eq_getElem hlt⟩
      obtain ⟨b, o, A2, n2, c2, rfl, hc2, hcap2, hri2⟩ := RS.at_ (RS.ext HS3.out hEw) hak
      obtain ⟨of, hof⟩ : ∃ of, of = form ps a := ⟨_, rfl⟩
      have HIA : Hid (FormV ar ps a of) := Lib.hid (by rw [hof]; exact HI.out a (List.mem_of_getElem? hak))
      have HFMA := Lib.hid (HFM.out a (List.mem_of_getElem? hak))
      have HOF := Lib.hid hof
      have HAK := Lib.hid hak
      have HR2 := Lib.hid hri2
      have HC2 := Lib.hid hcap2
      clear hri2 hcap2 hof hak
      have hki : (k : Int) < (us.length : Int) := by omega
      have hk0 : (0 : Int) ≤ (k : Int) := by omega
      go_wp2_with fail
      refine wp_only (R := fun (a0 : Act) (a8 : Act) (w9 : World) => ∃ (g : Nat) (A3 : Option Addr) (n3 : Nat) (c3 : Nat), a8 = ((((((((((((a0.put (some 26) (.agg #[.slice As ns cs])).put (some 27) (.slice B m d)).put (some 28) (.slice (some ⟨b, o, none⟩) us.length c)).put (some 29) (.int .i64 (k : Int))).put (some 30) (.pointer (some ⟨b, o + k, none⟩))).put (some 31) (.slice A2 n2 c2)).put (some 32) (.tuple #[.agg #[.int .i64 (rp of).c, .slice A3 n3 c3], .bool of.isSome])).put (some 25) (.tuple #[.agg #[.int .i64 (rp of).c, .slice A3 n3 c3], .bool of.isSome])).put (some 33) (.agg #[.int .i64 (rp of).c, .slice A3 n3 c3])).put (some 34) (.bool of.isSome)).put (some 12) (.pointer (some ⟨g, 0, none⟩))).put (some 13) (.bool of.isSome)) ∧ n3 = (rp of).cf.length ∧ PG wr w9 g (rp of).c A3 c3 (rp of).cf) ?_ (fun a8 w5 hR => ?_)
      · refine wp_region_held_drew (S := (fun w' => Ext wr w')) (by kernel_rfl) ((Ext.refl wr).drew) (fun hH => ?_)
        refine wpAnyH_take_dst (i := 0) (v := .agg #[.slice As ns cs]) (d := some 26) rfl rfl (by kernel_rfl) (by kernel_rfl) (by kernel_rfl) (fun _ _ _ h => h) (Or.inl ⟨by rfl, ?_⟩) hH ?_
        · (intro w' hE'; (try dsimp only at hE'); have x0 := Ext.keep hE' hr0; have x1 := Ext.keep hE' hc2; go_simp; try with_reducible rfl)
        try simp only [Act.put, List.setIfInBounds_toArray, List.set_cons_zero, List.set_cons_succ]
        refine wpAnyH_take_dst (i := 1) (v := .slice B m d) (d := some 27) rfl rfl (by kernel_rfl) (by kernel_rfl) (by kernel_rfl) (fun _ _ _ h => h) (Or.inl ⟨by rfl, ?_⟩) hH ?_
        · (intro w' hE'; (try dsimp only at hE'); have x0 := Ext.keep hE' hr0; have x1 := Ext.keep hE' hc2; go_simp; try with_reducible rfl)
        try simp only [Act.put, List.setIfInBounds_toArray, List.set_cons_zero, List.set_cons_succ]
        refine wpAnyH_take_dst (i := 2) (v := .slice (some ⟨b, o, none⟩) us.length c) (d := some 28) rfl rfl (by kernel_rfl) (by kernel_rfl) (by kernel_rfl) (fun _ _ _ h => h) (Or.inl ⟨by rfl, ?_⟩) hH ?_
        · (intro w' hE'; (try dsimp only at hE'); have x0 := Ext.keep hE' hr0; have x1 := Ext.keep hE' hc2; go_simp; try with_reducible rfl)
        try simp only [Act.put, List.setIfInBounds_toArray, List.set_cons_zero, List.set_cons_succ]
        refine wpAnyH_take_dst (i := 3) (v := .int .i64 (k : Int)) (d := some 29) rfl rfl (by kernel_rfl) (by kernel_rfl) (by kernel_rfl) (fun _ _ _ h => h) (Or.inl ⟨by rfl, ?_⟩) hH ?_
        · (intro w' hE'; (try dsimp only at hE'); have x0 := Ext.keep hE' hr0; have x1 := Ext.keep hE' hc2; go_simp; try with_reducible rfl)
        try simp only [Act.put, List.setIfInBounds_toArray, List.set_cons_zero, List.set_cons_succ]
        refine wpAnyH_take_dst (i := 4) (v := .pointer (some ⟨b, o + k, none⟩)) (d := some 30) rfl rfl (by kernel_rfl) (by kernel_rfl) (by kernel_rfl) (fun _ _ _ h => h) (Or.inl ⟨by rfl, ?_⟩) hH ?_
        · (intro w' hE'; (try dsimp only at hE'); have x0 := Ext.keep hE' hr0; have x1 := Ext.keep hE' hc2; go_simp; try with_reducible rfl)
        try simp only [Act.put, List.setIfInBounds_toArray, List.set_cons_zero, List.set_cons_succ]
        refine wpAnyH_take_dst (i := 5) (v := .slice A2 n2 c2) (d := some 31) rfl rfl (by kernel_rfl) (by kernel_rfl) (by kernel_rfl) (fun _ _ _ h => h) (Or.inl ⟨by rfl, ?_⟩) hH ?_
        · (intro w' hE'; (try dsimp only at hE'); have x0 := Ext.keep hE' hr0; have x1 := Ext.keep hE' hc2; go_simp; try with_reducible rfl)
        try simp only [Act.put, List.setIfInBounds_toArray, List.set_cons_zero, List.set_cons_succ]
        refine wpAnyH_ready (rs := [6, 10]) (by kernel_rfl) (by simp) ?_
        refine AllReadyH.cons rfl (fun K hK => ?_) (AllReadyH.cons rfl (fun K hK => ?_) (AllReadyH.nil))
        · rw [if_pos (by rfl)]
          go_wp2_with fail
          (with_reducible refine (HIA.out _ _ _ _ (RdSig.mk (RI.ext HA.out (Ext.trans hEw hH))) (RdPs.mk (RP.ext HB.out (Ext.trans hEw hH))) (RdIc.mk HC2.out (RI.ext HR2.out hH))).mono ?_)
          rintro e w9 ⟨A3, n3, c3, rfl, hO3, hE9⟩
          refine hK.out _ _ (Ext.trans hH hE9) (fun hH9 => ?_)
          clear hK; have hH0 := hH; clear hH; have hH := hH9; clear hH9
          try simp only [Act.put, List.setIfInBounds_toArray, List.set_cons_zero, List.set_cons_succ]
          refine wpAnyH_take_dst (i := 7) (v := .tuple #[.agg #[.int .i64 (rp of).c, .slice A3 n3 c3], .bool of.isSome]) (d := some 25) rfl rfl (by kernel_rfl) (by kernel_rfl) (by kernel_rfl) (fun _ _ _ h => h) (Or.inl ⟨by rfl, ?_⟩) hH ?_
          · (intro w' hE'; (try dsimp only at hE'); have x0 := Ext.keep hE' hr0; have x1 := Ext.keep hE' hc2; go_simp; try with_reducible rfl)
          try simp only [Act.put, List.setIfInBounds_toArray, List.set_cons_zero, List.set_cons_succ]
          refine wpAnyH_take_dst (i := 8) (v := .agg #[.int .i64 (rp of).c, .slice A3 n3 c3]) (d := some 33) rfl rfl (by kernel_rfl) (by kernel_rfl) (by kernel_rfl) (fun _ _ _ h => h) (Or.inl ⟨by rfl, ?_⟩) hH ?_
          · (intro w' hE'; (try dsimp only at hE'); have x0 := Ext.keep hE' hr0; have x1 := Ext.keep hE' hc2; go_simp; try with_reducible rfl)
          try simp only [Act.put, List.setIfInBounds_toArray, List.set_cons_zero, List.set_cons_succ]
          refine wpAnyH_take_dst (i := 9) (v := .bool of.isSome) (d := some 34) rfl rfl (by kernel_rfl) (by kernel_rfl) (by kernel_rfl) (fun _ _ _ h => h) (Or.inl ⟨by rfl, ?_⟩) hH ?_
          · (intro w' hE'; (try dsimp only at hE'); have x0 := Ext.keep hE' hr0; have x1 := Ext.keep hE' hc2; go_simp; try with_reducible rfl)
          try simp only [Act.put, List.setIfInBounds_toArray, List.set_cons_zero, List.set_cons_succ]
          refine wpAnyH_ready (rs := [10]) (by kernel_rfl) (by simp) ?_
          refine AllReadyH.cons rfl (fun K hK => ?_) AllReadyH.nil
          rw [if_pos (by rfl)]
          go_wp2_with fail
          refine hK.out _ _ (hH.alloc _) (fun hH9 => ?_)
          clear hK; have hH0 := hH; clear hH; have hH := hH9; clear hH9
          try simp only [Act.put, List.setIfInBounds_toArray, List.set_cons_zero, List.set_cons_succ]
          refine wpAnyH_ready (rs := [11]) (by kernel_rfl) (by simp) ?_
          refine AllReadyH.cons rfl (fun K hK => ?_) AllReadyH.nil
          rw [if_pos (by rfl)]
          go_wp2_with fail
          refine hK.out _ _ (hH0.alloc _) (fun hH9 => ?_)
          clear hK; have hH0 := hH; clear hH; have hH := hH9; clear hH9
          try simp only [Act.put, List.setIfInBounds_toArray, List.set_cons_zero, List.set_cons_succ]
          refine wpAnyH_take_dst (i := 12) (v := .bool of.isSome) (d := some 13) rfl rfl (by kernel_rfl) (by kernel_rfl) (by kernel_rfl) (fun _ _ _ h => h) (Or.inl ⟨by rfl, ?_⟩) hH ?_
          · (intro w' hE'; (try dsimp only at hE'); have x0 := Ext.keep hE' hr0; have x1 := Ext.keep hE' hc2; go_simp; try with_reducible rfl)
          try simp only [Act.put, List.setIfInBounds_toArray, List.set_cons_zero, List.set_cons_succ]
          refine wpAnyH_done (by kernel_rfl) ?_ _
          refine ⟨w9.heap.size, A3, n3, c3, by rfl, hO3.len.symm, PG.of hO3.len.symm (by simp [go_sem]) (by simp [go_sem]) (by intro j; simp [go_sem]) (OwI.alloc hO3 _) (fun b o s e => ?_) (by have := hE9.size; simp [go_sem] at this; omega) hH⟩
          have := (hO3.bd b o s e).2; omega
        · rw [if_pos (by rfl)]
          go_wp2_with fail
          refine hK.out _ _ (hH.alloc _) (fun hH9 => ?_)
          clear hK; have hH0 := hH; clear hH; have hH := hH9; clear hH9
          try simp only [Act.put, List.setIfInBounds_toArray, List.set_cons_zero, List.set_cons_succ]
          refine wpAnyH_ready (rs := [6]) (by kernel_rfl) (by simp) ?_
          refine AllReadyH.cons rfl (fun K hK => ?_) AllReadyH.nil
          rw [if_pos (by rfl)]
          go_wp2_with fail
          (with_reducible refine (HIA.out _ _ _ _ (RdSig.mk (RI.ext HA.out (Ext.trans hEw hH))) (RdPs.mk (RP.ext HB.out (Ext.trans hEw hH))) (RdIc.mk HC2.out (RI.ext HR2.out hH))).mono ?_)
          rintro e w9 ⟨A3, n3, c3, rfl, hO3, hE9⟩
          refine hK.out _ _ (Ext.trans hH hE9) (fun hH9 => ?_)
          clear hK; have hH0 := hH; clear hH; have hH := hH9; clear hH9
          try simp only [Act.put, List.setIfInBounds_toArray, List.set_cons_zero, List.set_cons_succ]
          refine wpAnyH_take_dst (i := 7) (v := .tuple #[.agg #[.int .i64 (rp of).c, .slice A3 n3 c3], .bool of.isSome]) (d := some 25) rfl rfl (by kernel_rfl) (by kernel_rfl) (by kernel_rfl) (fun _ _ _ h => h) (Or.inl ⟨by rfl, ?_⟩) hH ?_
          · (intro w' hE'; (try dsimp only at hE'); have x0 := Ext.keep hE' hr0; have x1 := Ext.keep hE' hc2; go_simp; try with_reducible rfl)
          try simp only [Act.put, List.setIfInBounds_toArray, List.set_cons_zero, List.set_cons_succ]
          refine wpAnyH_take_dst (i := 8) (v := .agg #[.int .i64 (rp of).c, .slice A3 n3 c3]) (d := some 33) rfl rfl (by kernel_rfl) (by kernel_rfl) (by kernel_rfl) (fun _ _ _ h => h) (Or.inl ⟨by rfl, ?_⟩) hH ?_
          · (intro w' hE'; (try dsimp only at hE'); have x0 := Ext.keep hE' hr0; have x1 := Ext.keep hE' hc2; go_simp; try with_reducible rfl)
          try simp only [Act.put, List.setIfInBounds_toArray, List.set_cons_zero, List.set_cons_succ]
          refine wpAnyH_take_dst (i := 9) (v := .bool of.isSome) (d := some 34) rfl rfl (by kernel_rfl) (by kernel_rfl) (by kernel_rfl) (fun _ _ _ h => h) (Or.inl ⟨by rfl, ?_⟩) hH ?_
          · (intro w' hE'; (try dsimp only at hE'); have x0 := Ext.keep hE' hr0; have x1 := Ext.keep hE' hc2; go_simp; try with_reducible rfl)
          try simp only [Act.put, List.setIfInBounds_toArray, List.set_cons_zero, List.set_cons_succ]
          refine wpAnyH_ready (rs := [11]) (by kernel_rfl) (by simp) ?_
          refine AllReadyH.cons rfl (fun K hK => ?_) AllReadyH.nil
          rw [if_pos (by rfl)]
          obtain ⟨k0, k1, kf⟩ := box_ext hE9 (q := wr.heap.size) (u := .int .i64 0) (v := .slice none 0 0) (by simp [go_sem]) (by simp [go_sem]) (by intro j; simp [go_sem]); go_wp2_with fail
          refine hK.out _ _ ((hH.set (Nat.le_refl _) _).set (Nat.le_refl _) _) (fun hH9 => ?_)
          clear hK; have hH0 := hH; clear hH; have hH := hH9; clear hH9
          try simp only [Act.put, List.setIfInBounds_toArray, List.set_cons_zero, List.set_cons_succ]
          refine wpAnyH_take_dst (i := 12) (v := .bool of.isSome) (d := some 13) rfl rfl (by kernel_rfl) (by kernel_rfl) (by kernel_rfl) (fun _ _ _ h => h) (Or.inl ⟨by rfl, ?_⟩) hH ?_
          · (intro w' hE'; (try dsimp only at hE'); have x0 := Ext.keep hE' hr0; have x1 := Ext.keep hE' hc2; go_simp; try with_reducible rfl)
          try simp only [Act.put, List.setIfInBounds_toArray, List.set_cons_zero, List.set_cons_succ]
          refine wpAnyH_done (by kernel_rfl) ?_ _
          refine ⟨wr.heap.size, A3, n3, c3, by rfl, hO3.len.symm, PG.put hO3.len.symm k0 k1 kf (hO3.lower (by simp [go_sem])) (fun b o s e => ?_) (Nat.le_refl _) hH0⟩
          have := (hO3.bd b o s e).1; simp [go_sem] at this; omega
      obtain ⟨g, A3, n3, c3, ha, hn3, Pf⟩ := hR
      simp only [Act.put, List.setIfInBounds_toArray, List.set_cons_zero, List.set_cons_succ] at ha
      subst ha
      have HN3 := Lib.hid hn3
      clear hn3
      have hE5 : Ext wr w5 := Pf.ex
      have hEw5 : Ext w w5 := Ext.trans hEw hE5
      have hE15 : Ext w1 w5 := Ext.trans hE0 hE5
      have hp2 := Ext.keep hE15 hs2
      have hp3 := Ext.keep hE15 hs3
      have hp4 : ∀ o, w5.frozen? ⟨w.heap.size + 1 + 1, o, none⟩ = false := fun o => (Below.frozen (p := ⟨w.heap.size + 1 + 1, o, none⟩) hE15 (by show w.heap.size + 1 + 1 < _; omega)).trans (hs4 o)
      clear hr0 hc2
      cases of with
      | none =>
        have HR := Lib.hid (show (formL ps us).bind (fun fs => appP q fs) = none by rw [formL_none HAK.out HOF.out.symm]; rfl)
        clear P0 Pf
        go_wp2_with fail
        refine bodyPost_ret (v := .tuple #[.agg #[.int .i64 0, .slice none 0 0], .bool false]) (by simp [results, Try.results53, go_sem, hp2, hp3, hp4]) rfl ?_
        rw [HR.out]
        exact ⟨none, 0, 0, rfl, ⟨by omega, World.ownsRow_nil _ _ _ _⟩, by exact extX⟩
      | some f =>
        obtain ⟨b7, o7, mk, hD7, hmk, hcmk⟩ := RI.at_ HD.out hlt
        have hmkb := HQ.out.2 mk (List.mem_of_getElem? hmk)
        have HSN := Lib.hid (sumTo_snoc (p := q) (f := f) HF.out.1)
        have HFN := Lib.hid (HF.out.push HAK.out HOF.out.symm)
        have HFF := Lib.hid (HFMA.out f HOF.out.symm)
        have hsn : sumTo q (fs ++ [f]) (k + 1) = addP P f mk := by rw [HSN.out, ← HP.out, getD_at' hmk]
        have HS8 := Lib.hid hsn
        clear HSN hsn hmk
        have P1 := P0.ext hE5
        have hq0 := P1.c0
        have hq1 := P1.c1
        have hf0 : w5.cell? ⟨g, 0, none⟩ = some (.int .i64 f.c) := Pf.c0
        have hf1 : w5.cell? ⟨g, 1, none⟩ = some (.slice A3 n3 c3) := by rw [HN3.out]; exact Pf.c1
        have hpc := Ext.keep hE15 hs1
        have hd7 := Ext.keep hEw5 hcmk
        have HRP := Lib.hid (show RdPl w5 (.agg #[.int .i64 P.c, .slice A1 P.cf.length cA]) P from RdPl.mk P1.oA.ri)
        have HRF := Lib.hid (show RdPl w5 (.agg #[.int .i64 f.c, .slice A3 n3 c3]) f from RdPl.mk (by rw [HN3.out]; exact Pf.oA.ri))
        have HP1 := Lib.hid P1
        have hsz5 : w1.heap.size < w5.heap.size := P1.lt
        subst hD7
        clear P0 P1 Pf hcmk
        go_wp2_with fail
        refine wp_only (R := fun (a0 : Act) (a8 : Act) (w9 : World) => ∃ (g8 : Nat) (x : Int) (A4 : Option Addr) (n4 : Nat) (c4 : Nat) (zs : List Int) (ok : Bool), a8 = (((((((((((((a0.put (some 39) (.agg #[.int .i64 P.c, .slice A1 P.cf.length cA])).put (some 40) (.agg #[.int .i64 f.c, .slice A3 n3 c3])).put (some 41) (.pointer (some ⟨w.heap.size + 1, 1, none⟩))).put (some 42) (.slice (some ⟨b7, o7, none⟩) us.length e)).put (some 43) (.int .i64 (k : Int))).put (some 44) (.pointer (some ⟨b7, o7 + k, none⟩))).put (some 45) (.int .i64 mk)).put (some 46) (.tuple #[.agg #[.int .i64 x, .slice A4 n4 c4], .bool ok])).put (some 38) (.tuple #[.agg #[.int .i64 x, .slice A4 n4 c4], .bool ok])).put (some 47) (.agg #[.int .i64 x, .slice A4 n4 c4])).put (some 48) (.bool ok)).put (some 14) (.pointer (some ⟨g8, 0, none⟩))).put (some 15) (.bool ok)) ∧ n4 = zs.length ∧ (ok = true ↔ ¬ Big (addP P f mk)) ∧ (ok = true → x = (addP P f mk).c ∧ zs = (addP P f mk).cf) ∧ PG w5 w9 g8 x A4 c4 zs) ?_ (fun a8 w8 hR => ?_)
        · refine wp_region_held_drew (S := (fun w' => Ext w5 w')) (by kernel_rfl) ((Ext.refl w5).drew) (fun hH => ?_)
          refine wpAnyH_take_dst (i := 0) (v := .agg #[.int .i64 P.c, .slice A1 P.cf.length cA]) (d := some 39) rfl rfl (by kernel_rfl) (by kernel_rfl) (by kernel_rfl) (fun _ _ _ h => h) (Or.inl ⟨by rfl, ?_⟩) hH ?_
          · (intro w' hE'; (try dsimp only at hE'); have x0 := Ext.keep hE' hq0; have x1 := Ext.keep hE' hq1; have x2 := Ext.keep hE' hf0; have x3 := Ext.keep hE' hf1; have x4 := Ext.keep hE' hpc; have x5 := Ext.keep hE' hd7; go_simp; try with_reducible rfl)
          try simp only [Act.put, List.setIfInBounds_toArray, List.set_cons_zero, List.set_cons_succ]
          refine wpAnyH_take_dst (i := 1) (v := .agg #[.int .i64 f.c, .slice A3 n3 c3]) (d := some 40) rfl rfl (by kernel_rfl) (by kernel_rfl) (by kernel_rfl) (fun _ _ _ h => h) (Or.inl ⟨by rfl, ?_⟩) hH ?_
          · (intro w' hE'; (try dsimp only at hE'); have x0 := Ext.keep hE' hq0; have x1 := Ext.keep hE' hq1; have x2 := Ext.keep hE' hf0; have x3 := Ext.keep hE' hf1; have x4 := Ext.keep hE' hpc; have x5 := Ext.keep hE' hd7; go_simp; try with_reducible rfl)
          try simp only [Act.put, List.setIfInBounds_toArray, List.set_cons_zero, List.set_cons_succ]
          refine wpAnyH_take_dst (i := 2) (v := .pointer (some ⟨w.heap.size + 1, 1, none⟩)) (d := some 41) rfl rfl (by kernel_rfl) (by kernel_rfl) (by kernel_rfl) (fun _ _ _ h => h) (Or.inl ⟨by rfl, ?_⟩) hH ?_
          · (intro w' hE'; (try dsimp only at hE'); have x0 := Ext.keep hE' hq0; have x1 := Ext.keep hE' hq1; have x2 := Ext.keep hE' hf0; have x3 := Ext.keep hE' hf1; have x4 := Ext.keep hE' hpc; have x5 := Ext.keep hE' hd7; go_simp; try with_reducible rfl)
          try simp only [Act.put, List.setIfInBounds_toArray, List.set_cons_zero, List.set_cons_succ]
          refine wpAnyH_take_dst (i := 3) (v := .slice (some ⟨b7, o7, none⟩) us.length e) (d := some 42) rfl rfl (by kernel_rfl) (by kernel_rfl) (by kernel_rfl) (fun _ _ _ h => h) (Or.inl ⟨by rfl, ?_⟩) hH ?_
          · (intro w' hE'; (try dsimp only at hE'); have x0 := Ext.keep hE' hq0; have x1 := Ext.keep hE' hq1; have x2 := Ext.keep hE' hf0; have x3 := Ext.keep hE' hf1; have x4 := Ext.keep hE' hpc; have x5 := Ext.keep hE' hd7; go_simp; try with_reducible rfl)
          try simp only [Act.put, List.setIfInBounds_toArray, List.set_cons_zero, List.set_cons_succ]
          refine wpAnyH_take_dst (i := 4) (v := .int .i64 (k : Int)) (d := some 43) rfl rfl (by kernel_rfl) (by kernel_rfl) (by kernel_rfl) (fun _ _ _ h => h) (Or.inl ⟨by rfl, ?_⟩) hH ?_
          · (intro w' hE'; (try dsimp only at hE'); have x0 := Ext.keep hE' hq0; have x1 := Ext.keep hE' hq1; have x2 := Ext.keep hE' hf0; have x3 := Ext.keep hE' hf1; have x4 := Ext.keep hE' hpc; have x5 := Ext.keep hE' hd7; go_simp; try with_reducible rfl)
          try simp only [Act.put, List.setIfInBounds_toArray, List.set_cons_zero, List.set_cons_succ]
          refine wpAnyH_take_dst (i := 5) (v := .pointer (some ⟨b7, o7 + k, none⟩)) (d := some 44) rfl rfl (by kernel_rfl) (by kernel_rfl) (by kernel_rfl) (fun _ _ _ h => h) (Or.inl ⟨by rfl, ?_⟩) hH ?_
          · (intro w' hE'; (try dsimp only at hE'); have x0 := Ext.keep hE' hq0; have x1 := Ext.keep hE' hq1; have x2 := Ext.keep hE' hf0; have x3 := Ext.keep hE' hf1; have x4 := Ext.keep hE' hpc; have x5 := Ext.keep hE' hd7; go_simp; try with_reducible rfl)
          try simp only [Act.put, List.setIfInBounds_toArray, List.set_cons_zero, List.set_cons_succ]
          refine wpAnyH_take_dst (i := 6) (v := .int .i64 mk) (d := some 45) rfl rfl (by kernel_rfl) (by kernel_rfl) (by kernel_rfl) (fun _ _ _ h => h) (Or.inl ⟨by rfl, ?_⟩) hH ?_
          · (intro w' hE'; (try dsimp only at hE'); have x0 := Ext.keep hE' hq0; have x1 := Ext.keep hE' hq1; have x2 := Ext.keep hE' hf0; have x3 := Ext.keep hE' hf1; have x4 := Ext.keep hE' hpc; have x5 := Ext.keep hE' hd7; go_simp; try with_reducible rfl)
          try simp only [Act.put, List.setIfInBounds_toArray, List.set_cons_zero, List.set_cons_succ]
          refine wpAnyH_ready (rs := [7, 11]) (by kernel_rfl) (by simp) ?_
          refine AllReadyH.cons rfl (fun K hK => ?_) (AllReadyH.cons rfl (fun K hK => ?_) (AllReadyH.nil))
          · rw [if_pos (by rfl)]
            go_wp2_with fail
            (with_reducible refine (c_l15Add (a := P) (b := f) (HRP.out.ext hH) (HRF.out.ext hH) HFS.out HFF.out hmkb).mono ?_)
            rintro e w9 ⟨x, A4, n4, c4, zs, ok, rfl, hO4, hok, hval, hE9⟩
            refine hK.out _ _ (Ext.trans hH hE9) (fun hH9 => ?_)
            clear hK; have hH0 := hH; clear hH; have hH := hH9; clear hH9
            try simp only [Act.put, List.setIfInBounds_toArray, List.set_cons_zero, List.set_cons_succ]
            refine wpAnyH_take_dst (i := 8) (v := .tuple #[.agg #[.int .i64 x, .slice A4 n4 c4], .bool ok]) (d := some 38) rfl rfl (by kernel_rfl) (by kernel_rfl) (by kernel_rfl) (fun _ _ _ h => h) (Or.inl ⟨by rfl, ?_⟩) hH ?_
            · (intro w' hE'; (try dsimp only at hE'); have x0 := Ext.keep hE' hq0; have x1 := Ext.keep hE' hq1; have x2 := Ext.keep hE' hf0; have x3 := Ext.keep hE' hf1; have x4 := Ext.keep hE' hpc; have x5 := Ext.keep hE' hd7; go_simp; try with_reducible rfl)
            try simp only [Act.put, List.setIfInBounds_toArray, List.set_cons_zero, List.set_cons_succ]
            refine wpAnyH_take_dst (i := 9) (v := .agg #[.int .i64 x, .slice A4 n4 c4]) (d := some 47) rfl rfl (by kernel_rfl) (by kernel_rfl) (by kernel_rfl) (fun _ _ _ h => h) (Or.inl ⟨by rfl, ?_⟩) hH ?_
            · (intro w' hE'; (try dsimp only at hE'); have x0 := Ext.keep hE' hq0; have x1 := Ext.keep hE' hq1; have x2 := Ext.keep hE' hf0; have x3 := Ext.keep hE' hf1; have x4 := Ext.keep hE' hpc; have x5 := Ext.keep hE' hd7; go_simp; try with_reducible rfl)
            try simp only [Act.put, List.setIfInBounds_toArray, List.set_cons_zero, List.set_cons_succ]
            refine wpAnyH_take_dst (i := 10) (v := .bool ok) (d := some 48) rfl rfl (by kernel_rfl) (by kernel_rfl) (by kernel_rfl) (fun _ _ _ h => h) (Or.inl ⟨by rfl, ?_⟩) hH ?_
            · (intro w' hE'; (try dsimp only at hE'); have x0 := Ext.keep hE' hq0; have x1 := Ext.keep hE' hq1; have x2 := Ext.keep hE' hf0; have x3 := Ext.keep hE' hf1; have x4 := Ext.keep hE' hpc; have x5 := Ext.keep hE' hd7; go_simp; try with_reducible rfl)
            try simp only [Act.put, List.setIfInBounds_toArray, List.set_cons_zero, List.set_cons_succ]
            refine wpAnyH_ready (rs := [11]) (by kernel_rfl) (by simp) ?_
            refine AllReadyH.cons rfl (fun K hK => ?_) AllReadyH.nil
            rw [if_pos (by rfl)]
            go_wp2_with fail
            refine hK.out _ _ (hH.alloc _) (fun hH9 => ?_)
            clear hK; have hH0 := hH; clear hH; have hH := hH9; clear hH9
            try simp only [Act.put, List.setIfInBounds_toArray, List.set_cons_zero, List.set_cons_succ]
            refine wpAnyH_ready (rs := [12]) (by kernel_rfl) (by simp) ?_
            refine AllReadyH.cons rfl (fun K hK => ?_) AllReadyH.nil
            rw [if_pos (by rfl)]
            go_wp2_with fail
            refine hK.out _ _ (hH0.alloc _) (fun hH9 => ?_)
            clear hK; have hH0 := hH; clear hH; have hH := hH9; clear hH9
            try simp only [Act.put, List.setIfInBounds_toArray, List.set_cons_zero, List.set_cons_succ]
            refine wpAnyH_take_dst (i := 13) (v := .bool ok) (d := some 15) rfl rfl (by kernel_rfl) (by kernel_rfl) (by kernel_rfl) (fun _ _ _ h => h) (Or.inl ⟨by rfl, ?_⟩) hH ?_
            · (intro w' hE'; (try dsimp only at hE'); have x0 := Ext.keep hE' hq0; have x1 := Ext.keep hE' hq1; have x2 := Ext.keep hE' hf0; have x3 := Ext.keep hE' hf1; have x4 := Ext.keep hE' hpc; have x5 := Ext.keep hE' hd7; go_simp; try with_reducible rfl)
            try simp only [Act.put, List.setIfInBounds_toArray, List.set_cons_zero, List.set_cons_succ]
            refine wpAnyH_done (by kernel_rfl) ?_ _
            refine ⟨w9.heap.size, x, A4, n4, c4, zs, ok, by rfl, hO4.len.symm, hok, hval, PG.of hO4.len.symm (by simp [go_sem]) (by simp [go_sem]) (by intro j; simp [go_sem]) (OwI.alloc hO4 _) (fun b o s e => ?_) (by have := hE9.size; simp [go_sem] at this; omega) hH⟩
            have := (hO4.bd b o s e).2; omega
          · rw [if_pos (by rfl)]
            go_wp2_with fail
            refine hK.out _ _ (hH.alloc _) (fun hH9 => ?_)
            clear hK; have hH0 := hH; clear hH; have hH := hH9; clear hH9
            try simp only [Act.put, List.setIfInBounds_toArray, List.set_cons_zero, List.set_cons_succ]
            refine wpAnyH_ready (rs := [7]) (by kernel_rfl) (by simp) ?_
            refine AllReadyH.cons rfl (fun K hK => ?_) AllReadyH.nil
            rw [if_pos (by rfl)]
            go_wp2_with fail
            (with_reducible refine (c_l15Add (a := P) (b := f) (HRP.out.ext hH) (HRF.out.ext hH) HFS.out HFF.out hmkb).mono ?_)
            rintro e w9 ⟨x, A4, n4, c4, zs, ok, rfl, hO4, hok, hval, hE9⟩
            refine hK.out _ _ (Ext.trans hH hE9) (fun hH9 => ?_)
            clear hK; have hH0 := hH; clear hH; have hH := hH9; clear hH9
            try simp only [Act.put, List.setIfInBounds_toArray, List.set_cons_zero, List.set_cons_succ]
            refine wpAnyH_take_dst (i := 8) (v := .tuple #[.agg #[.int .i64 x, .slice A4 n4 c4], .bool ok]) (d := some 38) rfl rfl (by kernel_rfl) (by kernel_rfl) (by kernel_rfl) (fun _ _ _ h => h) (Or.inl ⟨by rfl, ?_⟩) hH ?_
            · (intro w' hE'; (try dsimp only at hE'); have x0 := Ext.keep hE' hq0; have x1 := Ext.keep hE' hq1; have x2 := Ext.keep hE' hf0; have x3 := Ext.keep hE' hf1; have x4 := Ext.keep hE' hpc; have x5 := Ext.keep hE' hd7; go_simp; try with_reducible rfl)
            try simp only [Act.put, List.setIfInBounds_toArray, List.set_cons_zero, List.set_cons_succ]
            refine wpAnyH_take_dst (i := 9) (v := .agg #[.int .i64 x, .slice A4 n4 c4]) (d := some 47) rfl rfl (by kernel_rfl) (by kernel_rfl) (by kernel_rfl) (fun _ _ _ h => h) (Or.inl ⟨by rfl, ?_⟩) hH ?_
            · (intro w' hE'; (try dsimp only at hE'); have x0 := Ext.keep hE' hq0; have x1 := Ext.keep hE' hq1; have x2 := Ext.keep hE' hf0; have x3 := Ext.keep hE' hf1; have x4 := Ext.keep hE' hpc; have x5 := Ext.keep hE' hd7; go_simp; try with_reducible rfl)
            try simp only [Act.put, List.setIfInBounds_toArray, List.set_cons_zero, List.set_cons_succ]
            refine wpAnyH_take_dst (i := 10) (v := .bool ok) (d := some 48) rfl rfl (by kernel_rfl) (by kernel_rfl) (by kernel_rfl) (fun _ _ _ h => h) (Or.inl ⟨by rfl, ?_⟩) hH ?_
            · (intro w' hE'; (try dsimp only at hE'); have x0 := Ext.keep hE' hq0; have x1 := Ext.keep hE' hq1; have x2 := Ext.keep hE' hf0; have x3 := Ext.keep hE' hf1; have x4 := Ext.keep hE' hpc; have x5 := Ext.keep hE' hd7; go_simp; try with_reducible rfl)
            try simp only [Act.put, List.setIfInBounds_toArray, List.set_cons_zero, List.set_cons_succ]
            refine wpAnyH_ready (rs := [12]) (by kernel_rfl) (by simp) ?_
            refine AllReadyH.cons rfl (fun K hK => ?_) AllReadyH.nil
            rw [if_pos (by rfl)]
            obtain ⟨k0, k1, kf⟩ := box_ext hE9 (q := w5.heap.size) (u := .int .i64 0) (v := .slice none 0 0) (by simp [go_sem]) (by simp [go_sem]) (by intro j; simp [go_sem]); go_wp2_with fail
            refine hK.out _ _ ((hH.set (Nat.le_refl _) _).set (Nat.le_refl _) _) (fun hH9 => ?_)
            clear hK; have hH0 := hH; clear hH; have hH := hH9; clear hH9
            try simp only [Act.put, List.setIfInBounds_toArray, List.set_cons_zero, List.set_cons_succ]
            refine wpAnyH_take_dst (i := 13) (v := .bool ok) (d := some 15) rfl rfl (by kernel_rfl) (by kernel_rfl) (by kernel_rfl) (fun _ _ _ h => h) (Or.inl ⟨by rfl, ?_⟩) hH ?_
            · (intro w' hE'; (try dsimp only at hE'); have x0 := Ext.keep hE' hq0; have x1 := Ext.keep hE' hq1; have x2 := Ext.keep hE' hf0; have x3 := Ext.keep hE' hf1; have x4 := Ext.keep hE' hpc; have x5 := Ext.keep hE' hd7; go_simp; try with_reducible rfl)
            try simp only [Act.put, List.setIfInBounds_toArray, List.set_cons_zero, List.set_cons_succ]
            refine wpAnyH_done (by kernel_rfl) ?_ _
            refine ⟨w5.heap.size, x, A4, n4, c4, zs, ok, by rfl, hO4.len.symm, hok, hval, PG.put hO4.len.symm k0 k1 kf (hO4.lower (by simp [go_sem])) (fun b o s e => ?_) (Nat.le_refl _) hH0⟩
            have := (hO4.bd b o s e).1; simp [go_sem] at this; omega
        obtain ⟨g8, x, A4, n4, c4, zs, ok, ha, hn4, hok, hval, Pg⟩ := hR
        simp only [Act.put, List.setIfInBounds_toArray, List.set_cons_zero, List.set_cons_succ] at ha
        subst ha
        have HN4 := Lib.hid hn4
        clear hn4
        have hE8 : Ext w5 w8 := Pg.ex
        have hEw8 : Ext w w8 := Ext.trans hEw5 hE8
        have P8 := HP1.out.ext hE8
        have hv2 := Ext.keep hE8 hp2
        have hv3 := Ext.keep hE8 hp3
        have hp5 : w.heap.size + 1 + 1 < w5.heap.size := by omega
        have hv4 : ∀ o, w8.frozen? ⟨w.heap.size + 1 + 1, o, none⟩ = false := fun o => (Below.frozen (p := ⟨w.heap.size + 1 + 1, o, none⟩) hE8 hp5).trans (hp4 o)
        have HOK := Lib.hid hok
        have HVAL := Lib.hid hval
        clear hok hval hp2 hp3 hp4 hq0 hq1 hf0 hf1 hpc hd7
        cases ok with
        | false =>
          have hbig : Big (sumTo q (fs ++ [f]) (k + 1)) := by
            rw [HS8.out]; exact Classical.byContradiction fun h => by have := HOK.out.2 h; cases this
          have HR := Lib.hid (big_early HFN.out (by omega) HQ.out hu3 HFM.out hbig)
          clear P8 Pg hbig
          go_wp2_with fail
          refine bodyPost_ret (v := .tuple #[.agg #[.int .i64 0, .slice none 0 0], .bool false]) (by simp [results, Try.results53, go_sem, hv2, hv3, hv4]) rfl ?_
          rw [HR.out]
          exact ⟨none, 0, 0, rfl, ⟨by omega, World.ownsRow_nil _ _ _ _⟩, by exact extX⟩
        | true =>
          obtain ⟨hx, hzs⟩ := HVAL.out rfl
          have hg0 := Pg.c0
          have hg1 := Pg.c1
          rw [← HN4.out] at hg1
          have hy0 := P8.c0
          have hy1 := P8.c1
          have hyf := P8.fr
          have HN := Lib.hid (show PB w1 ((w8.setCell ⟨w1.heap.size, 0, none⟩ (.int .i64 x)).setCell ⟨w1.heap.size, 1, none⟩ (.slice A4 n4 c4)) x A4 c4 zs from P8.put HN4.out (by rw [HN4.out]; exact Pg.oA.lower (by omega)))
          have HX := Lib.hid hx
          have HZ := Lib.hid hzs
          clear P8 Pg hx hzs
          go_wp2_with fail
          go_roundw
          case rel => exact ⟨k + 1, by go_num, by omega, Lib.hid ⟨_, _, _, HFN.out, by rw [HS8.out]; exact HOK.out.1 rfl, by rw [HS8.out, ← HX.out, ← HZ.out]; exact HN.out⟩⟩
          case measure => simp only [intOf]; omega
    · have hkn : k = us.length := by omega
      subst hkn
      have HR := Lib.hid (show (formL ps us).bind (fun fs => appP q fs) = some P by rw [HF.out.all, HP.out]; exact app_sum HF.out.1 HNB.out)
      have hq0 := P0.c0
      have hq1 := P0.c1
      have hp2 := Ext.keep hE0 hs2
      have hp3 := Ext.keep hE0 hs3
      have hp4 : ∀ o, wr.frozen? ⟨w.heap.size + 1 + 1, o, none⟩ = false := fun o => (Below.frozen (p := ⟨w.heap.size + 1 + 1, o, none⟩) hE0 (by show w.heap.size + 1 + 1 < _; omega)).trans (hs4 o)
      have HO := Lib.hid P0.oA
      have hbd := P0.oA.bd
      clear P0
      go_wp2_with fail
      refine bodyPost_ret (v := .tuple #[.agg #[.int .i64 P.c, .slice A1 P.cf.length cA], .bool true]) (by simp [results, Try.results53, go_sem, hp2, hp3, hp4]) rfl ?_
      rw [HR.out]
      refine ⟨A1, _, cA, rfl, ?_, by exact extX⟩
      exact ((HO.out.lower (by omega)).setFar _ fun g o s e => by have := (hbd g o s e).1; show g ≠ w.heap.size + 1 + 1; omega).setFar _ fun g o s e => by have := (hbd g o s e).1; show g ≠ w.heap.size + 1 + 1; omega

/-! Forms, by the reference: the form of a term. -/
theorem flatL_mem_le {a : Tm} : ∀ {us : List Tm}, a ∈ us → a.flat.length ≤ (flatL us).length
  | b :: us, h => by
    rw [flatL_cons, List.length_append]
    rcases List.mem_cons.1 h with rfl | h
    · omega
    · have := flatL_mem_le h; omega
theorem flat_mem_lt {a : Tm} {x : Int} {us : List Tm} (h : a ∈ us) : a.flat.length < (Tm.node x us).flat.length := by
  have := flatL_mem_le h
  rw [flat_node, List.length_cons]; omega
theorem c_l15Sum' {v0 v1 v2 : Value} {ar : List Int} {ps : List Pl} {q : Pl} {us : List Tm} {A : Option Addr} {n c : Nat} {w : World} {oo : Option Pl} (ho : oo = (formL ps us).bind fun fs => appP q fs) (h0 : RdSig w v0 ar) (h1 : RdPs w v1 ps) (h2 : RdPl w v2 q) (h3 : RS w A n (us.map Tm.flat)) (hn : n = us.length)
    (hq : (0 ≤ q.c ∧ q.c ≤ 9) ∧ ∀ y ∈ q.cf, 0 ≤ y ∧ y ≤ 9) (hql : q.cf.length = us.length) (hu3 : us.length ≤ 3) (hfm : ∀ a ∈ us, ∀ f, form ps a = some f → Fm f) (ih : ∀ a ∈ us, FormV ar ps a (form ps a)) :
    Calls Try.prog 53 #[v0, v1, v2, .slice A n c] w (NewF w oo) := by
  rw [ho]; exact c_l15Sum h0 h1 h2 h3 hn hq hql hu3 hfm ih
set_option maxRecDepth 100000 in
set_option maxHeartbeats 4000000 in
theorem c_l15FormN {ar : List Int} {ps : List Pl} (hs : SigP ar) (h0s : PsAt ar ps 0) (hall : ∀ p ∈ ps, (0 ≤ p.c ∧ p.c ≤ 9) ∧ ∀ x ∈ p.cf, 0 ≤ x ∧ x ≤ 9) :
    ∀ (N : Nat) (u : Tm), u.flat.length ≤ N → u.Ok ar → (∀ y ∈ u.flat, -24 ≤ y) → FormV ar ps u (form ps u)
  | 0, u, hN, _, _ => absurd (flat_pos u) (by omega)
  | N + 1, .node x us, hN, hu, hv => by
    intro v0 v1 v2 w h0 h1 h2
    have HIH := Lib.hid (c_l15FormN hs h0s hall N)
    obtain ⟨A, n, c, rfl, ha⟩ := h0
    obtain ⟨B, m, d, rfl, hb⟩ := h1
    obtain ⟨D, l, e, rfl, hcap, hdd⟩ := h2
    have hll := hdd.len
    have hpos := flat_pos (Tm.node x us)
    have hxp : (Tm.node x us).flat[0]? = some x := by rw [flat_node]; rfl
    obtain ⟨bt, ot, y, rfl, hy, hcy⟩ := RI.at_ hdd (show 0 < l by omega)
    rw [hxp] at hy; cases hy
    rw [Nat.add_zero] at hcy
    have hbt : bt < w.heap.size := World.block_lt_of_cell? w _ hcy
    have hpl : (0 : Int) < (l : Int) := by omega
    have hl0 : l ≠ 0 := by omega
    have hl1 : 0 < l := by omega
    have HA := Lib.hid ha
    have HB := Lib.hid hb
    have HD := Lib.hid hdd
    have HCAP := Lib.hid hcap
    have HS := Lib.hid hs
    have HU := Lib.hid hu
    have HPS := Lib.hid h0s
    have HALL := Lib.hid hall
    by_cases hx : x < 0
    · have hx24 : -24 ≤ x := hv x (by rw [flat_node]; exact List.mem_cons_self)
      have HR := Lib.hid (show form ps (.node x us) = some (varPl x) by rw [form_node, if_pos hx])
      clear ha hb hdd hs hu hall h0s hv hxp hN HIH hcap
      obtain ⟨k, rfl⟩ : ∃ k : Nat, x = -((k : Int) + 1) := ⟨(-x - 1).toNat, by omega⟩
      obtain ⟨i0, hi0, hz0, hz1, hz2⟩ := info_parts int64_info
      have hneg : IntKind.i64.wrap (-(-((k : Int) + 1))) = (k : Int) + 1 := by rw [Int.neg_neg]; exact IntWalk.i64_in _ (by omega)
      go_enter Try.func48, Try.ntmps48
      go_wp2_with (at_make; refine wpList_make_full _ rfl _ _ 27 rfl (w.heap.size + 1 + 1) 2 i0 _ 1 Try.underlying27 hi0 hz0 hz1 _ _ _ _ (k + 1) rfl rfl rfl rfl (by rw [hz2]; omega) (by simp only [maxLen]; omega) (by go_size) ?_)
      intro w1 hown0 hg
      rw [madeInts] at hown0
      have hown := OwI.made hown0 (by omega)
      have hE : Ext ((w.alloc (.cells #[.slice A n c] 29)).alloc (.cells #[.int .i64 0, .slice none 0 0] 38)) w1 := Ext.grown (Ext.refl _) hg (fun k hk => by cases hk)
      have hEw : Ext w w1 := Ext.trans (by exact extX) hE
      have hb := (hown.bd _ _ _ rfl).2
      obtain ⟨k0, k1, kf⟩ := box_ext hE (q := w.heap.size + 1) (u := .int .i64 0) (v := .slice none 0 0) (by simp [go_sem]) (by simp [go_sem]) (by intro j; simp [go_sem])
      have hcy1 := Ext.keep hEw hcy
      have HO := Lib.hid hown
      have HX := Lib.hid (show (List.replicate (k + 1) (0 : Int)).set k 1 = (varPl (-((k : Int) + 1))).cf from by
        rw [List.replicate_succ', List.set_append_right _ _ (by simp)]
        simp only [List.length_replicate, Nat.sub_self, List.set_cons_zero, varPl]
        rw [show (-(-((k : Int) + 1))).toNat - 1 = k by omega])
      clear hown hown0 hg
      go_wp2_with fail
      obtain ⟨w2, hw2⟩ : ∃ w2, w2 = w1.alloc (.cells #[.int .i64 0, .slice (some ⟨w.heap.size + 1 + 1, 0, none⟩) (k + 1) (k + 1)] 38) := ⟨_, rfl⟩
      have hE2 : Ext w1 w2 := by rw [hw2]; exact (Ext.refl _).alloc _
      have hg0 : w2.cell? ⟨w1.heap.size, 0, none⟩ = some (.int .i64 0) := by rw [hw2]; simp [go_sem]
      have hg1 : w2.cell? ⟨w1.heap.size, 1, none⟩ = some (.slice (some ⟨w.heap.size + 1 + 1, 0, none⟩) (k + 1) (k + 1)) := by rw [hw2]; simp [go_sem]
      rw [← hw2]
      clear hw2
      have hO2 := HO.out.ext hE2
      obtain ⟨z, hz, hcz, hfz⟩ := OwI.at_ hO2 (k := k) (by omega)
      obtain ⟨m0, m1, mf⟩ := box_ext hE2 k0 k1 kf
      have hcy2 := Ext.keep hE2 hcy1
      have HO2 := Lib.hid hO2
      have hEw2 := Ext.trans hEw hE2
      have hsz2 : w1.heap.size < w2.heap.size := World.block_lt_of_cell? w2 _ hg0
      obtain ⟨k2, hk2⟩ : ∃ k2, k2 = k + 1 := ⟨_, rfl⟩
      rw [← hk2] at hg1
      have hkk : (k : Int) < (k2 : Int) := by omega
      have hk00 : (0 : Int) ≤ (k : Int) := by omega
      have hidx : IntKind.i64.wrap (-1 - -((k : Int) + 1)) = (k : Int) := by rw [show -1 - -((k : Int) + 1) = (k : Int) by omega]; exact IntWalk.i64_in _ (by omega)
      have hidx2 : -1 + ((k : Int) + 1) = (k : Int) := by omega
      have hne2 : ¬ (w.heap.size + 1 + 1 = w1.heap.size) := by omega
      have hne3 : ¬ (w1.heap.size = w.heap.size + 1 + 1) := by omega
      have HK2 := Lib.hid hk2
      clear hk2 hcy hcy1 k0 k1 kf hO2 hz hneg
      go_still_tail 6, (by kernel_rfl)
      change wpList _ _ _ _ _ w2.drew
      go_wp2_with fail
      refine bodyPost_ret (v := .tuple #[.agg #[.int .i64 (varPl (-((k : Int) + 1))).c, .slice (some ⟨w.heap.size + 1 + 1, 0, none⟩) k2 k2], .bool true]) (by simp [results, Try.results48, go_sem, m0, m1, mf, varPl]) rfl ?_
      rw [HR.out]
      refine ⟨some ⟨w.heap.size + 1 + 1, 0, none⟩, k2, k2, rfl, ?_, ?_⟩
      · have h1 := HO2.out.set k 1
        rw [HX.out] at h1
        rw [HK2.out]
        have h2 : OwI _ w.heap.size _ _ _ _ := h1.lower (B' := w.heap.size) (by omega)
        refine OwI.ext (OwI.setFar (OwI.setFar h2 _ (fun g o s e => ?_)) _ (fun g o s e => ?_)) (Ext.drew (Ext.refl _)) <;> (cases e; show w.heap.size + 1 + 1 ≠ w.heap.size + 1; omega)
      · exact extX
    · obtain ⟨x0, rfl⟩ := Int.eq_ofNat_of_zero_le (show 0 ≤ x by omega)
      obtain ⟨hok, hol⟩ := Ok_node.1 hu
      obtain ⟨q, hq, hql, hqc, hqcf⟩ := h0s x0 us.length hok
      rw [Nat.add_zero] at hq
      have hal : us.length ≤ 3 := arI_le hs hok
      have hOL := OkL_iff.1 hol
      have HFM := Lib.hid (show ∀ a ∈ us, ∀ f, form ps a = some f → Fm f from fun a hm f hf =>
        form_fm (ar := ar) hall (fun y b hb => arI_le hs hb) a (hOL a hm) (fun y hy => hv y (by rw [flat_node]; exact List.mem_cons_of_mem _ (mem_flatL hy hm))) f hf)
      have HIA := Lib.hid (show ∀ a ∈ us, FormV ar ps a (form ps a) from fun a hm => HIH.out a (by
        have := flat_mem_lt (x := (x0 : Int)) hm; omega) (hOL a hm) (fun y hy => hv y (by rw [flat_node]; exact List.mem_cons_of_mem _ (mem_flatL hy hm))))
      have HR := Lib.hid (show form ps (.node (x0 : Int) us) = (formL ps us).bind fun fs => appP q fs by
        rw [form_node, if_neg hx, Int.toNat_natCast, List.getD_eq_getElem?_getD, hq]; rfl)
      have HQB := Lib.hid (And.intro hqc hqcf)
      have HQL := Lib.hid hql
      have hml : x0 < m := by have := (List.getElem?_eq_some_iff.1 hq).1; rw [hb.len] at this; exact this
      obtain ⟨b4, o4, q', A4, m4, c4, rfl, hq', hd1, hd2, hri4⟩ := RP.at_ hb hml
      rw [hq] at hq'; cases hq'
      have HR4 := Lib.hid hri4
      obtain ⟨oo, hoo⟩ : ∃ oo, oo = (formL ps us).bind fun fs => appP q fs := ⟨_, rfl⟩
      have HOO := Lib.hid hoo
      have hmi : (x0 : Int) < (m : Int) := by omega
      have hx0i : (0 : Int) ≤ (x0 : Int) := by omega
      clear ha hb hdd hs hu hall h0s hv hxp hN HIH hcap hok hol hq hql hqc hqcf hOL hri4 hoo
      go_enter Try.func48, Try.ntmps48
      go_wp2_with fail
      obtain ⟨w1, hw1⟩ : ∃ w1, w1 = (w.alloc (.cells #[.slice A n c] 29)).alloc (.cells #[.int .i64 0, .slice none 0 0] 38) := ⟨_, rfl⟩
      have hs0 : w1.cell? ⟨w.heap.size, 0, none⟩ = some (.slice A n c) := by rw [hw1]; simp [go_sem]
      have hs2 : w1.cell? ⟨w.heap.size + 1, 0, none⟩ = some (.int .i64 0) := by rw [hw1]; simp [go_sem]
      have hs3 : w1.cell? ⟨w.heap.size + 1, 1, none⟩ = some (.slice none 0 0) := by rw [hw1]; simp [go_sem]
      have hs4 : ∀ o, w1.frozen? ⟨w.heap.size + 1, o, none⟩ = false := by intro o; rw [hw1]; simp [go_sem]
      have hE1 : Ext w w1 := by rw [hw1]; exact extX
      have hsz : w.heap.size + 1 < w1.heap.size := by rw [hw1]; simp [go_sem]
      rw [← hw1]
      clear hw1
      refine wp_only (R := fun (a0 : Act) (a8 : Act) (w9 : World) => ∃ (A5 : Option Addr) (c5 : Nat) (A6 : Option Addr) (n6 : Nat) (c6 : Nat), a8 = (((((((((((((((a0.put (some 27) (.agg #[.slice A n c])).put (some 28) (.slice (some ⟨b4, o4, none⟩) m d)).put (some 29) (.slice (some ⟨b4, o4, none⟩) m d)).put (some 30) (.slice (some ⟨bt, ot, none⟩) l e)).put (some 31) (.pointer (some ⟨bt, ot, none⟩))).put (some 32) (.int .i64 (x0 : Int))).put (some 33) (.pointer (some ⟨b4, o4 + x0 * 2, none⟩))).put (some 34) (.agg #[.int .i64 q.c, .slice A4 m4 c4])).put (some 35) (.agg #[.slice A n c])).put (some 36) (.slice (some ⟨bt, ot, none⟩) l e)).put (some 37) (.slice A5 us.length c5)).put (some 38) (.tuple #[.agg #[.int .i64 (rp oo).c, .slice A6 n6 c6], .bool oo.isSome])).put (some 39) (.agg #[.int .i64 (rp oo).c, .slice A6 n6 c6])).put (some 40) (.bool oo.isSome)).put (some 7) (.bool oo.isSome)) ∧ n6 = (rp oo).cf.length ∧ PG w w9 (w.heap.size + 1) (rp oo).c A6 c6 (rp oo).cf) ?_ (fun a8 w5 hR => ?_)
      · refine wp_region_held_drew (S := (fun w' => w'.cell? ⟨w.heap.size, 0, none⟩ = some (.slice A n c) ∧ Ext w w')) (by kernel_rfl) (⟨hs0, hE1.drew⟩) (fun hH => ?_)
        refine wpAnyH_take_dst (i := 0) (v := .agg #[.slice A n c]) (d := some 27) rfl rfl (by kernel_rfl) (by kernel_rfl) (by kernel_rfl) (fun _ _ _ h => h) (Or.inl ⟨by rfl, ?_⟩) hH ?_
        · (intro w' hE'; (try dsimp only at hE'); have y0 := hE'.1; have y1 := Ext.keep hE'.2 hcy; have y2 := Ext.keep hE'.2 hd1; have y3 := Ext.keep hE'.2 hd2; go_simp; try with_reducible rfl)
        try simp only [Act.put, List.setIfInBounds_toArray, List.set_cons_zero, List.set_cons_succ]
        refine wpAnyH_take_dst (i := 1) (v := .slice (some ⟨b4, o4, none⟩) m d) (d := some 28) rfl rfl (by kernel_rfl) (by kernel_rfl) (by kernel_rfl) (fun _ _ _ h => h) (Or.inl ⟨by rfl, ?_⟩) hH ?_
        · (intro w' hE'; (try dsimp only at hE'); have y0 := hE'.1; have y1 := Ext.keep hE'.2 hcy; have y2 := Ext.keep hE'.2 hd1; have y3 := Ext.keep hE'.2 hd2; go_simp; try with_reducible rfl)
        try simp only [Act.put, List.setIfInBounds_toArray, List.set_cons_zero, List.set_cons_succ]
        refine wpAnyH_take_dst (i := 2) (v := .slice (some ⟨b4, o4, none⟩) m d) (d := some 29) rfl rfl (by kernel_rfl) (by kernel_rfl) (by kernel_rfl) (fun _ _ _ h => h) (Or.inl ⟨by rfl, ?_⟩) hH ?_
        · (intro w' hE'; (try dsimp only at hE'); have y0 := hE'.1; have y1 := Ext.keep hE'.2 hcy; have y2 := Ext.keep hE'.2 hd1; have y3 := Ext.keep hE'.2 hd2; go_simp; try with_reducible rfl)
        try simp only [Act.put, List.setIfInBounds_toArray, List.set_cons_zero, List.set_cons_succ]
        refine wpAnyH_take_dst (i := 3) (v := .slice (some ⟨bt, ot, none⟩) l e) (d := some 30) rfl rfl (by kernel_rfl) (by kernel_rfl) (by kernel_rfl) (fun _ _ _ h => h) (Or.inl ⟨by rfl, ?_⟩) hH ?_
        · (intro w' hE'; (try dsimp only at hE'); have y0 := hE'.1; have y1 := Ext.keep hE'.2 hcy; have y2 := Ext.keep hE'.2 hd1; have y3 := Ext.keep hE'.2 hd2; go_simp; try with_reducible rfl)
        try simp only [Act.put, List.setIfInBounds_toArray, List.set_cons_zero, List.set_cons_succ]
        refine wpAnyH_take_dst (i := 4) (v := .pointer (some ⟨bt, ot, none⟩)) (d := some 31) rfl rfl (by kernel_rfl) (by kernel_rfl) (by kernel_rfl) (fun _ _ _ h => h) (Or.inl ⟨by rfl, ?_⟩) hH ?_
        · (intro w' hE'; (try dsimp only at hE'); have y0 := hE'.1; have y1 := Ext.keep hE'.2 hcy; have y2 := Ext.keep hE'.2 hd1; have y3 := Ext.keep hE'.2 hd2; go_simp; try with_reducible rfl)
        try simp only [Act.put, List.setIfInBounds_toArray, List.set_cons_zero, List.set_cons_succ]
        refine wpAnyH_take_dst (i := 5) (v := .int .i64 (x0 : Int)) (d := some 32) rfl rfl (by kernel_rfl) (by kernel_rfl) (by kernel_rfl) (fun _ _ _ h => h) (Or.inl ⟨by rfl, ?_⟩) hH ?_
        · (intro w' hE'; (try dsimp only at hE'); have y0 := hE'.1; have y1 := Ext.keep hE'.2 hcy; have y2 := Ext.keep hE'.2 hd1; have y3 := Ext.keep hE'.2 hd2; go_simp; try with_reducible rfl)
        try simp only [Act.put, List.setIfInBounds_toArray, List.set_cons_zero, List.set_cons_succ]
        refine wpAnyH_take_dst (i := 6) (v := .pointer (some ⟨b4, o4 + x0 * 2, none⟩)) (d := some 33) rfl rfl (by kernel_rfl) (by kernel_rfl) (by kernel_rfl) (fun _ _ _ h => h) (Or.inl ⟨by rfl, ?_⟩) hH ?_
        · (intro w' hE'; (try dsimp only at hE'); have y0 := hE'.1; have y1 := Ext.keep hE'.2 hcy; have y2 := Ext.keep hE'.2 hd1; have y3 := Ext.keep hE'.2 hd2; go_simp; try with_reducible rfl)
        try simp only [Act.put, List.setIfInBounds_toArray, List.set_cons_zero, List.set_cons_succ]
        refine wpAnyH_take_dst (i := 7) (v := .agg #[.int .i64 q.c, .slice A4 m4 c4]) (d := some 34) rfl rfl (by kernel_rfl) (by kernel_rfl) (by kernel_rfl) (fun _ _ _ h => h) (Or.inl ⟨by rfl, ?_⟩) hH ?_
        · (intro w' hE'; (try dsimp only at hE'); have y0 := hE'.1; have y1 := Ext.keep hE'.2 hcy; have y2 := Ext.keep hE'.2 hd1; have y3 := Ext.keep hE'.2 hd2; go_simp; try with_reducible rfl)
        try simp only [Act.put, List.setIfInBounds_toArray, List.set_cons_zero, List.set_cons_succ]
        refine wpAnyH_take_dst (i := 8) (v := .agg #[.slice A n c]) (d := some 35) rfl rfl (by kernel_rfl) (by kernel_rfl) (by kernel_rfl) (fun _ _ _ h => h) (Or.inl ⟨by rfl, ?_⟩) hH ?_
        · (intro w' hE'; (try dsimp only at hE'); have y0 := hE'.1; have y1 := Ext.keep hE'.2 hcy; have y2 := Ext.keep hE'.2 hd1; have y3 := Ext.keep hE'.2 hd2; go_simp; try with_reducible rfl)
        try simp only [Act.put, List.setIfInBounds_toArray, List.set_cons_zero, List.set_cons_succ]
        refine wpAnyH_take_dst (i := 9) (v := .slice (some ⟨bt, ot, none⟩) l e) (d := some 36) rfl rfl (by kernel_rfl) (by kernel_rfl) (by kernel_rfl) (fun _ _ _ h => h) (Or.inl ⟨by rfl, ?_⟩) hH ?_
        · (intro w' hE'; (try dsimp only at hE'); have y0 := hE'.1; have y1 := Ext.keep hE'.2 hcy; have y2 := Ext.keep hE'.2 hd1; have y3 := Ext.keep hE'.2 hd2; go_simp; try with_reducible rfl)
        try simp only [Act.put, List.setIfInBounds_toArray, List.set_cons_zero, List.set_cons_succ]
        refine wpAnyH_ready (rs := [10]) (by kernel_rfl) (by simp) ?_
        refine AllReadyH.cons rfl (fun K hK => ?_) AllReadyH.nil
        rw [if_pos (by rfl)]
        go_wp2_with fail
        (with_reducible refine (c_l13Parts (x := (x0 : Int)) (us := us) (RdSig.mk (RI.ext HA.out hH.2)) (RdIc.mk HCAP.out (RI.ext HD.out hH.2)) HS.out HU.out).mono ?_)
        rintro e w9 ⟨A5, n5, c5, rfl, rfl, hS5, hE9⟩
        refine hK.out _ _ (⟨Ext.keep hE9 hH.1, Ext.trans hH.2 hE9⟩) (fun hH9 => ?_)
        clear hK; have hH0 := hH; clear hH; have hH := hH9; clear hH9
        try simp only [Act.put, List.setIfInBounds_toArray, List.set_cons_zero, List.set_cons_succ]
        refine wpAnyH_ready (rs := [11]) (by kernel_rfl) (by simp) ?_
        refine AllReadyH.cons rfl (fun K hK => ?_) AllReadyH.nil
        rw [if_pos (by rfl)]
        go_wp2_with fail
        (with_reducible refine (c_l15Sum' (q := q) HOO.out (RdSig.mk (RI.ext HA.out hH.2)) (RdPs.mk (RP.ext HB.out hH.2)) (RdPl.mk (RI.ext HR4.out hH.2)) hS5 rfl HQB.out HQL.out hal HFM.out HIA.out).mono ?_)
        rintro e w9 ⟨A6, n6, c6, rfl, hO6, hE8⟩
        refine hK.out _ _ (⟨Ext.keep hE8 hH.1, Ext.trans hH.2 hE8⟩) (fun hH9 => ?_)
        clear hK; have hH0 := hH; clear hH; have hH := hH9; clear hH9
        try simp only [Act.put, List.setIfInBounds_toArray, List.set_cons_zero, List.set_cons_succ]
        refine wpAnyH_take_dst (i := 12) (v := .agg #[.int .i64 (rp oo).c, .slice A6 n6 c6]) (d := some 39) rfl rfl (by kernel_rfl) (by kernel_rfl) (by kernel_rfl) (fun _ _ _ h => h) (Or.inl ⟨by rfl, ?_⟩) hH ?_
        · (intro w' hE'; (try dsimp only at hE'); have y0 := hE'.1; have y1 := Ext.keep hE'.2 hcy; have y2 := Ext.keep hE'.2 hd1; have y3 := Ext.keep hE'.2 hd2; go_simp; try with_reducible rfl)
        try simp only [Act.put, List.setIfInBounds_toArray, List.set_cons_zero, List.set_cons_succ]
        refine wpAnyH_take_dst (i := 13) (v := .bool oo.isSome) (d := some 40) rfl rfl (by kernel_rfl) (by kernel_rfl) (by kernel_rfl) (fun _ _ _ h => h) (Or.inl ⟨by rfl, ?_⟩) hH ?_
        · (intro w' hE'; (try dsimp only at hE'); have y0 := hE'.1; have y1 := Ext.keep hE'.2 hcy; have y2 := Ext.keep hE'.2 hd1; have y3 := Ext.keep hE'.2 hd2; go_simp; try with_reducible rfl)
        try simp only [Act.put, List.setIfInBounds_toArray, List.set_cons_zero, List.set_cons_succ]
        refine wpAnyH_ready (rs := [14]) (by kernel_rfl) (by simp) ?_
        refine AllReadyH.cons rfl (fun K hK => ?_) AllReadyH.nil
        rw [if_pos (by rfl)]
        obtain ⟨k0, k1, kf⟩ := box_ext (Ext.trans hE9 hE8) (q := w.heap.size + 1) (u := .int .i64 0) (v := .slice none 0 0) hs2 hs3 hs4; go_wp2_with fail
        refine hK.out _ _ (⟨by rw [World.cell?_setCell_other _ _ _ _ (by simp), World.cell?_setCell_other _ _ _ _ (by simp)]; exact hH.1, (hH.2.set (Nat.le_succ _) _).set (Nat.le_succ _) _⟩) (fun hH9 => ?_)
        clear hK; have hH0 := hH; clear hH; have hH := hH9; clear hH9
        try simp only [Act.put, List.setIfInBounds_toArray, List.set_cons_zero, List.set_cons_succ]
        refine wpAnyH_take_dst (i := 15) (v := .bool oo.isSome) (d := some 7) rfl rfl (by kernel_rfl) (by kernel_rfl) (by kernel_rfl) (fun _ _ _ h => h) (Or.inl ⟨by rfl, ?_⟩) hH ?_
        · (intro w' hE'; (try dsimp only at hE'); have y0 := hE'.1; have y1 := Ext.keep hE'.2 hcy; have y2 := Ext.keep hE'.2 hd1; have y3 := Ext.keep hE'.2 hd2; go_simp; try with_reducible rfl)
        try simp only [Act.put, List.setIfInBounds_toArray, List.set_cons_zero, List.set_cons_succ]
        refine wpAnyH_done (by kernel_rfl) ?_ _
        refine ⟨A5, c5, A6, n6, c6, by rfl, hO6.len.symm, PG.put hO6.len.symm k0 k1 kf (hO6.lower (Nat.le_trans hE1.size hE9.size)) (fun b o s e => ?_) (Nat.le_succ _) hH0.2⟩
        have h1 := (hO6.bd b o s e).1; have h2 := hE9.size; have h3 : w1.heap.size ≤ w1.drew.heap.size := Nat.le_refl _; omega
      obtain ⟨A5, c5, A6, n6, c6, ha, hn6, P6⟩ := hR
      simp only [Act.put, List.setIfInBounds_toArray, List.set_cons_zero, List.set_cons_succ] at ha
      subst ha
      have k0 := P6.c0
      have k1 := P6.c1
      have kf := P6.fr
      have hE5 := P6.ex
      have HO := Lib.hid P6.oA
      clear P6 hn6
      go_wp2_with fail
      refine bodyPost_ret (v := .tuple #[.agg #[.int .i64 (rp oo).c, .slice A6 (rp oo).cf.length c6], .bool oo.isSome]) (by simp [results, Try.results48, go_sem, k0, k1, kf]) rfl ?_
      rw [HR.out, ← HOO.out]
      exact ⟨A6, _, c6, rfl, HO.out, hE5⟩

/-! FormOf of both, and the comparisons of the reference. -/
/-- The form of a term, where all is right. -/
noncomputable def formO (ar : List Int) (ps : List Pl) (t : List Int) : Option Pl := if (polysOk ar ps && termOk ar t) = true then form ps (tmOf ar t) else none
theorem formO_f {ar : List Int} {ps : List Pl} {t : List Int} (h : (polysOk ar ps && termOk ar t) = false) : formO ar ps t = none := by unfold formO; rw [h]; rfl
theorem formO_t {ar : List Int} {ps : List Pl} {t : List Int} (h : (polysOk ar ps && termOk ar t) = true) : formO ar ps t = form ps (tmOf ar t) := by unfold formO; rw [if_pos h]
theorem formO_fm {ar : List Int} {ps : List Pl} {t : List Int} {f : Pl} (h : formO ar ps t = some f) : Fm f := by
  cases hk : (polysOk ar ps && termOk ar t) with
  | false => rw [formO_f hk] at h; cases h
  | true =>
    rw [formO_t hk] at h
    rw [Bool.and_eq_true] at hk
    have hp := polysOk_iff.1 hk.1
    have ht := termOk_iff.1 hk.2
    obtain ⟨k1, k2⟩ := tmOf_ok ht
    exact form_fm (ar := ar) hp.all (fun y b hb => arI_le hp.1 hb) _ k1 (fun y hy => ht.2.2.1 y (by rw [← k2]; exact hy)) f h
theorem c_l15Form0 {v0 v1 v2 : Value} {ar t : List Int} {ps : List Pl} {w : World} (h0 : RdSig w v0 ar) (h1 : RdPs w v1 ps) (h2 : RdIc w v2 t) (hp : PolysP ar ps) (ht : TermP ar t) :
    Calls Try.prog 48 #[v0, v1, v2] w (NewF w (form ps (tmOf ar t))) := by
  obtain ⟨k1, k2⟩ := tmOf_ok ht
  exact c_l15FormN hp.1 hp.at0 hp.all _ (tmOf ar t) (Nat.le_refl _) k1 (fun y hy => ht.2.2.1 y (by rw [← k2]; exact hy)) v0 v1 v2 w h0 h1 (by rw [k2]; exact h2)
set_option maxRecDepth 100000 in
set_option maxHeartbeats 2000000 in
theorem c_sFormOf {v0 v1 v2 : Value} {ar t : List Int} {ps : List Pl} {w : World} (h0 : RdSig w v0 ar) (h1 : RdPs w v1 ps) (h2 : RdIc w v2 t) :
    Calls Try.prog 18 #[v0, v1, v2] w (NewF w (formO ar ps t)) := by
  obtain ⟨A, n, c, rfl, ha⟩ := h0
  obtain ⟨B, m, d, rfl, hb⟩ := h1
  obtain ⟨D, q, l, rfl, hcap, hd⟩ := h2
  have HA := Lib.hid ha
  have HB := Lib.hid hb
  have HD := Lib.hid hd
  have HCP := Lib.hid hcap
  clear hcap
  clear ha hb hd
  cases hk : (polysOk ar ps && termOk ar t) with
  | false =>
    have HR := Lib.hid (formO_f hk)
    cases hw : polysOk ar ps with
    | false =>
      clear hk
      go_enter Try.func18, Try.ntmps18
      go_wp2_with (go_at_call 47; (with_reducible refine (c_sPolysOk (ar := ar) (ps := ps) (by (first | (first | (with_reducible exact RdI.mk (RI.ext (Hid.out (by with_reducible assumption)) (by exact extX))) | (with_reducible exact RdI.ext (by with_reducible assumption) (by exact extX))) | (with_reducible exact RdPs.mk (RP.ext (Hid.out (by with_reducible assumption)) (by exact extX))) | (with_reducible exact RdPs.ext (by with_reducible assumption) (by exact extX)) | (with_reducible exact RdPl.mk (by (first | (with_reducible exact RI.ext (Hid.out (by with_reducible assumption)) (by exact extX))))) | (with_reducible exact RdPl.ext (by with_reducible assumption) (by exact extX)) | (with_reducible exact RdSig.mk (by (first | (with_reducible exact RI.ext (Hid.out (by with_reducible assumption)) (by exact extX))))) | (with_reducible exact RdSig.ext (by with_reducible assumption) (by exact extX)))) (by (first | (first | (with_reducible exact RdI.mk (RI.ext (Hid.out (by with_reducible assumption)) (by exact extX))) | (with_reducible exact RdI.ext (by with_reducible assumption) (by exact extX))) | (with_reducible exact RdPs.mk (RP.ext (Hid.out (by with_reducible assumption)) (by exact extX))) | (with_reducible exact RdPs.ext (by with_reducible assumption) (by exact extX)) | (with_reducible exact RdPl.mk (by (first | (with_reducible exact RI.ext (Hid.out (by with_reducible assumption)) (by exact extX))))) | (with_reducible exact RdPl.ext (by with_reducible assumption) (by exact extX)) | (with_reducible exact RdSig.mk (by (first | (with_reducible exact RI.ext (Hid.out (by with_reducible assumption)) (by exact extX))))) | (with_reducible exact RdSig.ext (by with_reducible assumption) (by exact extX))))).mono ?_); rintro e w1 ⟨rfl, hE1⟩; have hz1 := sz_of hE1; (try simp only [World.size_alloc, World.size_setCell, World.size_drew] at hz1); obtain ⟨hc1, hf1⟩ := bcell hE1; (try have hq1_0 : w.heap.size < w1.heap.size := by omega); (try have hq1_1 : w.heap.size + 1 < w1.heap.size := by omega); (try have hq1_2 : w.heap.size + 1 + 1 < w1.heap.size := by omega); (try have hq1_3 : w.heap.size + 1 + 1 + 1 < w1.heap.size := by omega); (try have hq1_4 : w.heap.size + 1 + 1 + 1 + 1 < w1.heap.size := by omega); (try have hq1_5 : w.heap.size + 1 + 1 + 1 + 1 + 1 < w1.heap.size := by omega))
      refine bodyPost_ret (v := .tuple #[.agg #[.int .i64 0, .slice none 0 0], .bool false]) (by simp [results, Try.results18, go_sem, *]) rfl ?_
      rw [HR.out]
      exact ⟨none, 0, 0, rfl, ⟨by omega, World.ownsRow_nil _ _ _ _⟩, by exact extX⟩
    | true =>
      have ht : termOk ar t = false := by rw [hw] at hk; simpa using hk
      clear hk
      go_enter Try.func18, Try.ntmps18
      go_wp2_with (first
        | (go_at_call 47; (with_reducible refine (c_sPolysOk (ar := ar) (ps := ps) (by (first | (first | (with_reducible exact RdI.mk (RI.ext (Hid.out (by with_reducible assumption)) (by exact extX))) | (with_reducible exact RdI.ext (by with_reducible assumption) (by exact extX))) | (with_reducible exact RdPs.mk (RP.ext (Hid.out (by with_reducible assumption)) (by exact extX))) | (with_reducible exact RdPs.ext (by with_reducible assumption) (by exact extX)) | (with_reducible exact RdPl.mk (by (first | (with_reducible exact RI.ext (Hid.out (by with_reducible assumption)) (by exact extX))))) | (with_reducible exact RdPl.ext (by with_reducible assumption) (by exact extX)) | (with_reducible exact RdSig.mk (by (first | (with_reducible exact RI.ext (Hid.out (by with_reducible assumption)) (by exact extX))))) | (with_reducible exact RdSig.ext (by with_reducible assumption) (by exact extX)))) (by (first | (first | (with_reducible exact RdI.mk (RI.ext (Hid.out (by with_reducible assumption)) (by exact extX))) | (with_reducible exact RdI.ext (by with_reducible assumption) (by exact extX))) | (with_reducible exact RdPs.mk (RP.ext (Hid.out (by with_reducible assumption)) (by exact extX))) | (with_reducible exact RdPs.ext (by with_reducible assumption) (by exact extX)) | (with_reducible exact RdPl.mk (by (first | (with_reducible exact RI.ext (Hid.out (by with_reducible assumption)) (by exact extX))))) | (with_reducible exact RdPl.ext (by with_reducible assumption) (by exact extX)) | (with_reducible exact RdSig.mk (by (first | (with_reducible exact RI.ext (Hid.out (by with_reducible assumption)) (by exact extX))))) | (with_reducible exact RdSig.ext (by with_reducible assumption) (by exact extX))))).mono ?_); rintro e w1 ⟨rfl, hE1⟩; have hz1 := sz_of hE1; (try simp only [World.size_alloc, World.size_setCell, World.size_drew] at hz1); obtain ⟨hc1, hf1⟩ := bcell hE1; (try have hq1_0 : w.heap.size < w1.heap.size := by omega); (try have hq1_1 : w.heap.size + 1 < w1.heap.size := by omega); (try have hq1_2 : w.heap.size + 1 + 1 < w1.heap.size := by omega); (try have hq1_3 : w.heap.size + 1 + 1 + 1 < w1.heap.size := by omega); (try have hq1_4 : w.heap.size + 1 + 1 + 1 + 1 < w1.heap.size := by omega); (try have hq1_5 : w.heap.size + 1 + 1 + 1 + 1 + 1 < w1.heap.size := by omega))
        | (go_at_call 37; (with_reducible refine (c_sTermOk (ar := ar) (t := t) (by (first | (first | (with_reducible exact RdI.mk (RI.ext (Hid.out (by with_reducible assumption)) (by exact extX))) | (with_reducible exact RdI.ext (by with_reducible assumption) (by exact extX))) | (with_reducible exact RdPs.mk (RP.ext (Hid.out (by with_reducible assumption)) (by exact extX))) | (with_reducible exact RdPs.ext (by with_reducible assumption) (by exact extX)) | (with_reducible exact RdPl.mk (by (first | (with_reducible exact RI.ext (Hid.out (by with_reducible assumption)) (by exact extX))))) | (with_reducible exact RdPl.ext (by with_reducible assumption) (by exact extX)) | (with_reducible exact RdSig.mk (by (first | (with_reducible exact RI.ext (Hid.out (by with_reducible assumption)) (by exact extX))))) | (with_reducible exact RdSig.ext (by with_reducible assumption) (by exact extX)))) (by (first | (first | (with_reducible exact RdI.mk (RI.ext (Hid.out (by with_reducible assumption)) (by exact extX))) | (with_reducible exact RdI.ext (by with_reducible assumption) (by exact extX))) | (with_reducible exact RdPs.mk (RP.ext (Hid.out (by with_reducible assumption)) (by exact extX))) | (with_reducible exact RdPs.ext (by with_reducible assumption) (by exact extX)) | (with_reducible exact RdPl.mk (by (first | (with_reducible exact RI.ext (Hid.out (by with_reducible assumption)) (by exact extX))))) | (with_reducible exact RdPl.ext (by with_reducible assumption) (by exact extX)) | (with_reducible exact RdSig.mk (by (first | (with_reducible exact RI.ext (Hid.out (by with_reducible assumption)) (by exact extX))))) | (with_reducible exact RdSig.ext (by with_reducible assumption) (by exact extX))))).mono ?_); rintro e w2 ⟨rfl, hE2⟩; have hz2 := sz_of hE2; (try simp only [World.size_alloc, World.size_setCell, World.size_drew] at hz2); obtain ⟨hc2, hf2⟩ := bcell hE2; (try have hq2_0 : w.heap.size < w2.heap.size := by omega); (try have hq2_1 : w.heap.size + 1 < w2.heap.size := by omega); (try have hq2_2 : w.heap.size + 1 + 1 < w2.heap.size := by omega); (try have hq2_3 : w.heap.size + 1 + 1 + 1 < w2.heap.size := by omega); (try have hq2_4 : w.heap.size + 1 + 1 + 1 + 1 < w2.heap.size := by omega); (try have hq2_5 : w.heap.size + 1 + 1 + 1 + 1 + 1 < w2.heap.size := by omega); (try have hx2_1 : w1.heap.size < w2.heap.size := by omega)))
      refine bodyPost_ret (v := .tuple #[.agg #[.int .i64 0, .slice none 0 0], .bool false]) (by simp [results, Try.results18, go_sem, *]) rfl ?_
      rw [HR.out]
      exact ⟨none, 0, 0, rfl, ⟨by omega, World.ownsRow_nil _ _ _ _⟩, by exact extX⟩
  | true =>
    have HR := Lib.hid (formO_t hk)
    rw [Bool.and_eq_true] at hk
    obtain ⟨hw, ht⟩ := hk
    have HP := Lib.hid (polysOk_iff.1 hw)
    have HT := Lib.hid (termOk_iff.1 ht)
    obtain ⟨of, hof⟩ : ∃ of, of = form ps (tmOf ar t) := ⟨_, rfl⟩
    have HOF := Lib.hid hof
    clear hof
    go_enter Try.func18, Try.ntmps18
    go_wp2_with (first
      | (go_at_call 47; (with_reducible refine (c_sPolysOk (ar := ar) (ps := ps) (by (first | (first | (with_reducible exact RdI.mk (RI.ext (Hid.out (by with_reducible assumption)) (by exact extX))) | (with_reducible exact RdI.ext (by with_reducible assumption) (by exact extX))) | (with_reducible exact RdPs.mk (RP.ext (Hid.out (by with_reducible assumption)) (by exact extX))) | (with_reducible exact RdPs.ext (by with_reducible assumption) (by exact extX)) | (with_reducible exact RdPl.mk (by (first | (with_reducible exact RI.ext (Hid.out (by with_reducible assumption)) (by exact extX))))) | (with_reducible exact RdPl.ext (by with_reducible assumption) (by exact extX)) | (with_reducible exact RdSig.mk (by (first | (with_reducible exact RI.ext (Hid.out (by with_reducible assumption)) (by exact extX))))) | (with_reducible exact RdSig.ext (by with_reducible assumption) (by exact extX)))) (by (first | (first | (with_reducible exact RdI.mk (RI.ext (Hid.out (by with_reducible assumption)) (by exact extX))) | (with_reducible exact RdI.ext (by with_reducible assumption) (by exact extX))) | (with_reducible exact RdPs.mk (RP.ext (Hid.out (by with_reducible assumption)) (by exact extX))) | (with_reducible exact RdPs.ext (by with_reducible assumption) (by exact extX)) | (with_reducible exact RdPl.mk (by (first | (with_reducible exact RI.ext (Hid.out (by with_reducible assumption)) (by exact extX))))) | (with_reducible exact RdPl.ext (by with_reducible assumption) (by exact extX)) | (with_reducible exact RdSig.mk (by (first | (with_reducible exact RI.ext (Hid.out (by with_reducible assumption)) (by exact extX))))) | (with_reducible exact RdSig.ext (by with_reducible assumption) (by exact extX))))).mono ?_); rintro e w1 ⟨rfl, hE1⟩; have hz1 := sz_of hE1; (try simp only [World.size_alloc, World.size_setCell, World.size_drew] at hz1); obtain ⟨hc1, hf1⟩ := bcell hE1; (try have hq1_0 : w.heap.size < w1.heap.size := by omega); (try have hq1_1 : w.heap.size + 1 < w1.heap.size := by omega); (try have hq1_2 : w.heap.size + 1 + 1 < w1.heap.size := by omega); (try have hq1_3 : w.heap.size + 1 + 1 + 1 < w1.heap.size := by omega); (try have hq1_4 : w.heap.size + 1 + 1 + 1 + 1 < w1.heap.size := by omega); (try have hq1_5 : w.heap.size + 1 + 1 + 1 + 1 + 1 < w1.heap.size := by omega))
      | (go_at_call 37; (with_reducible refine (c_sTermOk (ar := ar) (t := t) (by (first | (first | (with_reducible exact RdI.mk (RI.ext (Hid.out (by with_reducible assumption)) (by exact extX))) | (with_reducible exact RdI.ext (by with_reducible assumption) (by exact extX))) | (with_reducible exact RdPs.mk (RP.ext (Hid.out (by with_reducible assumption)) (by exact extX))) | (with_reducible exact RdPs.ext (by with_reducible assumption) (by exact extX)) | (with_reducible exact RdPl.mk (by (first | (with_reducible exact RI.ext (Hid.out (by with_reducible assumption)) (by exact extX))))) | (with_reducible exact RdPl.ext (by with_reducible assumption) (by exact extX)) | (with_reducible exact RdSig.mk (by (first | (with_reducible exact RI.ext (Hid.out (by with_reducible assumption)) (by exact extX))))) | (with_reducible exact RdSig.ext (by with_reducible assumption) (by exact extX)))) (by (first | (first | (with_reducible exact RdI.mk (RI.ext (Hid.out (by with_reducible assumption)) (by exact extX))) | (with_reducible exact RdI.ext (by with_reducible assumption) (by exact extX))) | (with_reducible exact RdPs.mk (RP.ext (Hid.out (by with_reducible assumption)) (by exact extX))) | (with_reducible exact RdPs.ext (by with_reducible assumption) (by exact extX)) | (with_reducible exact RdPl.mk (by (first | (with_reducible exact RI.ext (Hid.out (by with_reducible assumption)) (by exact extX))))) | (with_reducible exact RdPl.ext (by with_reducible assumption) (by exact extX)) | (with_reducible exact RdSig.mk (by (first | (with_reducible exact RI.ext (Hid.out (by with_reducible assumption)) (by exact extX))))) | (with_reducible exact RdSig.ext (by with_reducible assumption) (by exact extX))))).mono ?_); rintro e w2 ⟨rfl, hE2⟩; have hz2 := sz_of hE2; (try simp only [World.size_alloc, World.size_setCell, World.size_drew] at hz2); obtain ⟨hc2, hf2⟩ := bcell hE2; (try have hq2_0 : w.heap.size < w2.heap.size := by omega); (try have hq2_1 : w.heap.size + 1 < w2.heap.size := by omega); (try have hq2_2 : w.heap.size + 1 + 1 < w2.heap.size := by omega); (try have hq2_3 : w.heap.size + 1 + 1 + 1 < w2.heap.size := by omega); (try have hq2_4 : w.heap.size + 1 + 1 + 1 + 1 < w2.heap.size := by omega); (try have hq2_5 : w.heap.size + 1 + 1 + 1 + 1 + 1 < w2.heap.size := by omega); (try have hx2_1 : w1.heap.size < w2.heap.size := by omega))
      | fail)
    (with_reducible refine (c_l15Form0 (t := t) (by (first | (first | (with_reducible exact RdI.mk (RI.ext (Hid.out (by with_reducible assumption)) (by exact extX))) | (with_reducible exact RdI.ext (by with_reducible assumption) (by exact extX))) | (with_reducible exact RdPs.mk (RP.ext (Hid.out (by with_reducible assumption)) (by exact extX))) | (with_reducible exact RdPs.ext (by with_reducible assumption) (by exact extX)) | (with_reducible exact RdPl.mk (by (first | (with_reducible exact RI.ext (Hid.out (by with_reducible assumption)) (by exact extX))))) | (with_reducible exact RdPl.ext (by with_reducible assumption) (by exact extX)) | (with_reducible exact RdSig.mk (by (first | (with_reducible exact RI.ext (Hid.out (by with_reducible assumption)) (by exact extX))))) | (with_reducible exact RdSig.ext (by with_reducible assumption) (by exact extX)))) (by (first | (first | (with_reducible exact RdI.mk (RI.ext (Hid.out (by with_reducible assumption)) (by exact extX))) | (with_reducible exact RdI.ext (by with_reducible assumption) (by exact extX))) | (with_reducible exact RdPs.mk (RP.ext (Hid.out (by with_reducible assumption)) (by exact extX))) | (with_reducible exact RdPs.ext (by with_reducible assumption) (by exact extX)) | (with_reducible exact RdPl.mk (by (first | (with_reducible exact RI.ext (Hid.out (by with_reducible assumption)) (by exact extX))))) | (with_reducible exact RdPl.ext (by with_reducible assumption) (by exact extX)) | (with_reducible exact RdSig.mk (by (first | (with_reducible exact RI.ext (Hid.out (by with_reducible assumption)) (by exact extX))))) | (with_reducible exact RdSig.ext (by with_reducible assumption) (by exact extX)))) (RdIc.mk HCP.out (by (first | (with_reducible exact RI.ext (Hid.out (by with_reducible assumption)) (by exact extX))))) HP.out HT.out).mono ?_)
    rw [← HOF.out]
    rintro e3 w3 ⟨A3, n3, c3, rfl, hO3, hE3⟩
    have HO3 := Lib.hid hO3
    have hbd := hO3.bd
    have hz3 := sz_of hE3; (try simp only [World.size_alloc, World.size_setCell, World.size_drew] at hz3); obtain ⟨hc3, hf3⟩ := bcell hE3; (try have hq3_0 : w.heap.size < w3.heap.size := by omega); (try have hq3_1 : w.heap.size + 1 < w3.heap.size := by omega); (try have hq3_2 : w.heap.size + 1 + 1 < w3.heap.size := by omega); (try have hq3_3 : w.heap.size + 1 + 1 + 1 < w3.heap.size := by omega); (try have hq3_4 : w.heap.size + 1 + 1 + 1 + 1 < w3.heap.size := by omega); (try have hq3_5 : w.heap.size + 1 + 1 + 1 + 1 + 1 < w3.heap.size := by omega); (try have hx3_1 : w1.heap.size < w3.heap.size := by omega); (try have hx3_2 : w2.heap.size < w3.heap.size := by omega)
    clear hO3
    go_wp2_with fail
    refine bodyPost_ret (v := .tuple #[.agg #[.int .i64 (rp of).c, .slice A3 n3 c3], .bool of.isSome]) (by simp [results, Try.results18, go_sem, *]) rfl ?_
    rw [HR.out, ← HOF.out]
    refine ⟨A3, n3, c3, rfl, ?_, by exact extX⟩
    have h3 := HO3.out.lower (B' := w.heap.size) (by go_size)
    refine OwI.setFar (OwI.setFar h3 _ (fun g o s e => ?_)) _ (fun g o s e => ?_)
    · have := (hbd g o s e).1; show g ≠ w.heap.size + 1; omega
    · have := (hbd g o s e).1; show g ≠ w.heap.size + 1; omega
set_option maxRecDepth 100000 in
set_option maxHeartbeats 2000000 in
theorem c_iFormOf {v0 v1 v2 : Value} {ar t : List Int} {ps : List Pl} {w : World} (h0 : RdSig w v0 ar) (h1 : RdPs w v1 ps) (h2 : RdI w v2 t) :
    Calls Try.prog 11 #[v0, v1, v2] w (NewF w (formO ar ps t)) := by
  obtain ⟨A, n, c, rfl, ha⟩ := h0
  obtain ⟨B, m, d, rfl, hb⟩ := h1
  obtain ⟨D, q, l, rfl, hd⟩ := h2
  have HA := Lib.hid ha
  have HB := Lib.hid hb
  have HD := Lib.hid hd
  skip
  clear ha hb hd
  cases hk : (polysOk ar ps && termOk ar t) with
  | false =>
    have HR := Lib.hid (formO_f hk)
    cases hw : polysOk ar ps with
    | false =>
      clear hk
      go_enter Try.func11, Try.ntmps11
      go_wp2_with (go_at_call 32; (with_reducible refine (c_iPolysOk (ar := ar) (ps := ps) (by (first | (first | (with_reducible exact RdI.mk (RI.ext (Hid.out (by with_reducible assumption)) (by exact extX))) | (with_reducible exact RdI.ext (by with_reducible assumption) (by exact extX))) | (with_reducible exact RdPs.mk (RP.ext (Hid.out (by with_reducible assumption)) (by exact extX))) | (with_reducible exact RdPs.ext (by with_reducible assumption) (by exact extX)) | (with_reducible exact RdPl.mk (by (first | (with_reducible exact RI.ext (Hid.out (by with_reducible assumption)) (by exact extX))))) | (with_reducible exact RdPl.ext (by with_reducible assumption) (by exact extX)) | (with_reducible exact RdSig.mk (by (first | (with_reducible exact RI.ext (Hid.out (by with_reducible assumption)) (by exact extX))))) | (with_reducible exact RdSig.ext (by with_reducible assumption) (by exact extX)))) (by (first | (first | (with_reducible exact RdI.mk (RI.ext (Hid.out (by with_reducible assumption)) (by exact extX))) | (with_reducible exact RdI.ext (by with_reducible assumption) (by exact extX))) | (with_reducible exact RdPs.mk (RP.ext (Hid.out (by with_reducible assumption)) (by exact extX))) | (with_reducible exact RdPs.ext (by with_reducible assumption) (by exact extX)) | (with_reducible exact RdPl.mk (by (first | (with_reducible exact RI.ext (Hid.out (by with_reducible assumption)) (by exact extX))))) | (with_reducible exact RdPl.ext (by with_reducible assumption) (by exact extX)) | (with_reducible exact RdSig.mk (by (first | (with_reducible exact RI.ext (Hid.out (by with_reducible assumption)) (by exact extX))))) | (with_reducible exact RdSig.ext (by with_reducible assumption) (by exact extX))))).mono ?_); rintro e w1 ⟨rfl, hE1⟩; have hz1 := sz_of hE1; (try simp only [World.size_alloc, World.size_setCell, World.size_drew] at hz1); obtain ⟨hc1, hf1⟩ := bcell hE1; (try have hq1_0 : w.heap.size < w1.heap.size := by omega); (try have hq1_1 : w.heap.size + 1 < w1.heap.size := by omega); (try have hq1_2 : w.heap.size + 1 + 1 < w1.heap.size := by omega); (try have hq1_3 : w.heap.size + 1 + 1 + 1 < w1.heap.size := by omega); (try have hq1_4 : w.heap.size + 1 + 1 + 1 + 1 < w1.heap.size := by omega); (try have hq1_5 : w.heap.size + 1 + 1 + 1 + 1 + 1 < w1.heap.size := by omega))
      refine bodyPost_ret (v := .tuple #[.agg #[.int .i64 0, .slice none 0 0], .bool false]) (by simp [results, Try.results11, go_sem, *]) rfl ?_
      rw [HR.out]
      exact ⟨none, 0, 0, rfl, ⟨by omega, World.ownsRow_nil _ _ _ _⟩, by exact extX⟩
    | true =>
      have ht : termOk ar t = false := by rw [hw] at hk; simpa using hk
      clear hk
      go_enter Try.func11, Try.ntmps11
      go_wp2_with (first
        | (go_at_call 32; (with_reducible refine (c_iPolysOk (ar := ar) (ps := ps) (by (first | (first | (with_reducible exact RdI.mk (RI.ext (Hid.out (by with_reducible assumption)) (by exact extX))) | (with_reducible exact RdI.ext (by with_reducible assumption) (by exact extX))) | (with_reducible exact RdPs.mk (RP.ext (Hid.out (by with_reducible assumption)) (by exact extX))) | (with_reducible exact RdPs.ext (by with_reducible assumption) (by exact extX)) | (with_reducible exact RdPl.mk (by (first | (with_reducible exact RI.ext (Hid.out (by with_reducible assumption)) (by exact extX))))) | (with_reducible exact RdPl.ext (by with_reducible assumption) (by exact extX)) | (with_reducible exact RdSig.mk (by (first | (with_reducible exact RI.ext (Hid.out (by with_reducible assumption)) (by exact extX))))) | (with_reducible exact RdSig.ext (by with_reducible assumption) (by exact extX)))) (by (first | (first | (with_reducible exact RdI.mk (RI.ext (Hid.out (by with_reducible assumption)) (by exact extX))) | (with_reducible exact RdI.ext (by with_reducible assumption) (by exact extX))) | (with_reducible exact RdPs.mk (RP.ext (Hid.out (by with_reducible assumption)) (by exact extX))) | (with_reducible exact RdPs.ext (by with_reducible assumption) (by exact extX)) | (with_reducible exact RdPl.mk (by (first | (with_reducible exact RI.ext (Hid.out (by with_reducible assumption)) (by exact extX))))) | (with_reducible exact RdPl.ext (by with_reducible assumption) (by exact extX)) | (with_reducible exact RdSig.mk (by (first | (with_reducible exact RI.ext (Hid.out (by with_reducible assumption)) (by exact extX))))) | (with_reducible exact RdSig.ext (by with_reducible assumption) (by exact extX))))).mono ?_); rintro e w1 ⟨rfl, hE1⟩; have hz1 := sz_of hE1; (try simp only [World.size_alloc, World.size_setCell, World.size_drew] at hz1); obtain ⟨hc1, hf1⟩ := bcell hE1; (try have hq1_0 : w.heap.size < w1.heap.size := by omega); (try have hq1_1 : w.heap.size + 1 < w1.heap.size := by omega); (try have hq1_2 : w.heap.size + 1 + 1 < w1.heap.size := by omega); (try have hq1_3 : w.heap.size + 1 + 1 + 1 < w1.heap.size := by omega); (try have hq1_4 : w.heap.size + 1 + 1 + 1 + 1 < w1.heap.size := by omega); (try have hq1_5 : w.heap.size + 1 + 1 + 1 + 1 + 1 < w1.heap.size := by omega))
        | (go_at_call 33; (with_reducible refine (c_iTermOk (ar := ar) (t := t) (by (first | (first | (with_reducible exact RdI.mk (RI.ext (Hid.out (by with_reducible assumption)) (by exact extX))) | (with_reducible exact RdI.ext (by with_reducible assumption) (by exact extX))) | (with_reducible exact RdPs.mk (RP.ext (Hid.out (by with_reducible assumption)) (by exact extX))) | (with_reducible exact RdPs.ext (by with_reducible assumption) (by exact extX)) | (with_reducible exact RdPl.mk (by (first | (with_reducible exact RI.ext (Hid.out (by with_reducible assumption)) (by exact extX))))) | (with_reducible exact RdPl.ext (by with_reducible assumption) (by exact extX)) | (with_reducible exact RdSig.mk (by (first | (with_reducible exact RI.ext (Hid.out (by with_reducible assumption)) (by exact extX))))) | (with_reducible exact RdSig.ext (by with_reducible assumption) (by exact extX)))) (by (first | (first | (with_reducible exact RdI.mk (RI.ext (Hid.out (by with_reducible assumption)) (by exact extX))) | (with_reducible exact RdI.ext (by with_reducible assumption) (by exact extX))) | (with_reducible exact RdPs.mk (RP.ext (Hid.out (by with_reducible assumption)) (by exact extX))) | (with_reducible exact RdPs.ext (by with_reducible assumption) (by exact extX)) | (with_reducible exact RdPl.mk (by (first | (with_reducible exact RI.ext (Hid.out (by with_reducible assumption)) (by exact extX))))) | (with_reducible exact RdPl.ext (by with_reducible assumption) (by exact extX)) | (with_reducible exact RdSig.mk (by (first | (with_reducible exact RI.ext (Hid.out (by with_reducible assumption)) (by exact extX))))) | (with_reducible exact RdSig.ext (by with_reducible assumption) (by exact extX))))).mono ?_); rintro e w2 ⟨rfl, hE2⟩; have hz2 := sz_of hE2; (try simp only [World.size_alloc, World.size_setCell, World.size_drew] at hz2); obtain ⟨hc2, hf2⟩ := bcell hE2; (try have hq2_0 : w.heap.size < w2.heap.size := by omega); (try have hq2_1 : w.heap.size + 1 < w2.heap.size := by omega); (try have hq2_2 : w.heap.size + 1 + 1 < w2.heap.size := by omega); (try have hq2_3 : w.heap.size + 1 + 1 + 1 < w2.heap.size := by omega); (try have hq2_4 : w.heap.size + 1 + 1 + 1 + 1 < w2.heap.size := by omega); (try have hq2_5 : w.heap.size + 1 + 1 + 1 + 1 + 1 < w2.heap.size := by omega); (try have hx2_1 : w1.heap.size < w2.heap.size := by omega)))
      refine bodyPost_ret (v := .tuple #[.agg #[.int .i64 0, .slice none 0 0], .bool false]) (by simp [results, Try.results11, go_sem, *]) rfl ?_
      rw [HR.out]
      exact ⟨none, 0, 0, rfl, ⟨by omega, World.ownsRow_nil _ _ _ _⟩, by exact extX⟩
  | true =>
    have HR := Lib.hid (formO_t hk)
    rw [Bool.and_eq_true] at hk
    obtain ⟨hw, ht⟩ := hk
    have HP := Lib.hid (polysOk_iff.1 hw)
    have HT := Lib.hid (termOk_iff.1 ht)
    obtain ⟨of, hof⟩ : ∃ of, of = form ps (tmOf ar t) := ⟨_, rfl⟩
    have HOF := Lib.hid hof
    clear hof
    go_enter Try.func11, Try.ntmps11
    go_wp2_with (first
      | (go_at_call 32; (with_reducible refine (c_iPolysOk (ar := ar) (ps := ps) (by (first | (first | (with_reducible exact RdI.mk (RI.ext (Hid.out (by with_reducible assumption)) (by exact extX))) | (with_reducible exact RdI.ext (by with_reducible assumption) (by exact extX))) | (with_reducible exact RdPs.mk (RP.ext (Hid.out (by with_reducible assumption)) (by exact extX))) | (with_reducible exact RdPs.ext (by with_reducible assumption) (by exact extX)) | (with_reducible exact RdPl.mk (by (first | (with_reducible exact RI.ext (Hid.out (by with_reducible assumption)) (by exact extX))))) | (with_reducible exact RdPl.ext (by with_reducible assumption) (by exact extX)) | (with_reducible exact RdSig.mk (by (first | (with_reducible exact RI.ext (Hid.out (by with_reducible assumption)) (by exact extX))))) | (with_reducible exact RdSig.ext (by with_reducible assumption) (by exact extX)))) (by (first | (first | (with_reducible exact RdI.mk (RI.ext (Hid.out (by with_reducible assumption)) (by exact extX))) | (with_reducible exact RdI.ext (by with_reducible assumption) (by exact extX))) | (with_reducible exact RdPs.mk (RP.ext (Hid.out (by with_reducible assumption)) (by exact extX))) | (with_reducible exact RdPs.ext (by with_reducible assumption) (by exact extX)) | (with_reducible exact RdPl.mk (by (first | (with_reducible exact RI.ext (Hid.out (by with_reducible assumption)) (by exact extX))))) | (with_reducible exact RdPl.ext (by with_reducible assumption) (by exact extX)) | (with_reducible exact RdSig.mk (by (first | (with_reducible exact RI.ext (Hid.out (by with_reducible assumption)) (by exact extX))))) | (with_reducible exact RdSig.ext (by with_reducible assumption) (by exact extX))))).mono ?_); rintro e w1 ⟨rfl, hE1⟩; have hz1 := sz_of hE1; (try simp only [World.size_alloc, World.size_setCell, World.size_drew] at hz1); obtain ⟨hc1, hf1⟩ := bcell hE1; (try have hq1_0 : w.heap.size < w1.heap.size := by omega); (try have hq1_1 : w.heap.size + 1 < w1.heap.size := by omega); (try have hq1_2 : w.heap.size + 1 + 1 < w1.heap.size := by omega); (try have hq1_3 : w.heap.size + 1 + 1 + 1 < w1.heap.size := by omega); (try have hq1_4 : w.heap.size + 1 + 1 + 1 + 1 < w1.heap.size := by omega); (try have hq1_5 : w.heap.size + 1 + 1 + 1 + 1 + 1 < w1.heap.size := by omega))
      | (go_at_call 33; (with_reducible refine (c_iTermOk (ar := ar) (t := t) (by (first | (first | (with_reducible exact RdI.mk (RI.ext (Hid.out (by with_reducible assumption)) (by exact extX))) | (with_reducible exact RdI.ext (by with_reducible assumption) (by exact extX))) | (with_reducible exact RdPs.mk (RP.ext (Hid.out (by with_reducible assumption)) (by exact extX))) | (with_reducible exact RdPs.ext (by with_reducible assumption) (by exact extX)) | (with_reducible exact RdPl.mk (by (first | (with_reducible exact RI.ext (Hid.out (by with_reducible assumption)) (by exact extX))))) | (with_reducible exact RdPl.ext (by with_reducible assumption) (by exact extX)) | (with_reducible exact RdSig.mk (by (first | (with_reducible exact RI.ext (Hid.out (by with_reducible assumption)) (by exact extX))))) | (with_reducible exact RdSig.ext (by with_reducible assumption) (by exact extX)))) (by (first | (first | (with_reducible exact RdI.mk (RI.ext (Hid.out (by with_reducible assumption)) (by exact extX))) | (with_reducible exact RdI.ext (by with_reducible assumption) (by exact extX))) | (with_reducible exact RdPs.mk (RP.ext (Hid.out (by with_reducible assumption)) (by exact extX))) | (with_reducible exact RdPs.ext (by with_reducible assumption) (by exact extX)) | (with_reducible exact RdPl.mk (by (first | (with_reducible exact RI.ext (Hid.out (by with_reducible assumption)) (by exact extX))))) | (with_reducible exact RdPl.ext (by with_reducible assumption) (by exact extX)) | (with_reducible exact RdSig.mk (by (first | (with_reducible exact RI.ext (Hid.out (by with_reducible assumption)) (by exact extX))))) | (with_reducible exact RdSig.ext (by with_reducible assumption) (by exact extX))))).mono ?_); rintro e w2 ⟨rfl, hE2⟩; have hz2 := sz_of hE2; (try simp only [World.size_alloc, World.size_setCell, World.size_drew] at hz2); obtain ⟨hc2, hf2⟩ := bcell hE2; (try have hq2_0 : w.heap.size < w2.heap.size := by omega); (try have hq2_1 : w.heap.size + 1 < w2.heap.size := by omega); (try have hq2_2 : w.heap.size + 1 + 1 < w2.heap.size := by omega); (try have hq2_3 : w.heap.size + 1 + 1 + 1 < w2.heap.size := by omega); (try have hq2_4 : w.heap.size + 1 + 1 + 1 + 1 < w2.heap.size := by omega); (try have hq2_5 : w.heap.size + 1 + 1 + 1 + 1 + 1 < w2.heap.size := by omega); (try have hx2_1 : w1.heap.size < w2.heap.size := by omega))
      | fail)
    (with_reducible refine (c_formAt0 (t := t) (by (first | (first | (with_reducible exact RdI.mk (RI.ext (Hid.out (by with_reducible assumption)) (by exact extX))) | (with_reducible exact RdI.ext (by with_reducible assumption) (by exact extX))) | (with_reducible exact RdPs.mk (RP.ext (Hid.out (by with_reducible assumption)) (by exact extX))) | (with_reducible exact RdPs.ext (by with_reducible assumption) (by exact extX)) | (with_reducible exact RdPl.mk (by (first | (with_reducible exact RI.ext (Hid.out (by with_reducible assumption)) (by exact extX))))) | (with_reducible exact RdPl.ext (by with_reducible assumption) (by exact extX)) | (with_reducible exact RdSig.mk (by (first | (with_reducible exact RI.ext (Hid.out (by with_reducible assumption)) (by exact extX))))) | (with_reducible exact RdSig.ext (by with_reducible assumption) (by exact extX)))) (by (first | (first | (with_reducible exact RdI.mk (RI.ext (Hid.out (by with_reducible assumption)) (by exact extX))) | (with_reducible exact RdI.ext (by with_reducible assumption) (by exact extX))) | (with_reducible exact RdPs.mk (RP.ext (Hid.out (by with_reducible assumption)) (by exact extX))) | (with_reducible exact RdPs.ext (by with_reducible assumption) (by exact extX)) | (with_reducible exact RdPl.mk (by (first | (with_reducible exact RI.ext (Hid.out (by with_reducible assumption)) (by exact extX))))) | (with_reducible exact RdPl.ext (by with_reducible assumption) (by exact extX)) | (with_reducible exact RdSig.mk (by (first | (with_reducible exact RI.ext (Hid.out (by with_reducible assumption)) (by exact extX))))) | (with_reducible exact RdSig.ext (by with_reducible assumption) (by exact extX)))) (by (first | (first | (with_reducible exact RdI.mk (RI.ext (Hid.out (by with_reducible assumption)) (by exact extX))) | (with_reducible exact RdI.ext (by with_reducible assumption) (by exact extX))) | (with_reducible exact RdPs.mk (RP.ext (Hid.out (by with_reducible assumption)) (by exact extX))) | (with_reducible exact RdPs.ext (by with_reducible assumption) (by exact extX)) | (with_reducible exact RdPl.mk (by (first | (with_reducible exact RI.ext (Hid.out (by with_reducible assumption)) (by exact extX))))) | (with_reducible exact RdPl.ext (by with_reducible assumption) (by exact extX)) | (with_reducible exact RdSig.mk (by (first | (with_reducible exact RI.ext (Hid.out (by with_reducible assumption)) (by exact extX))))) | (with_reducible exact RdSig.ext (by with_reducible assumption) (by exact extX)))) HP.out HT.out).mono ?_)
    rw [← HOF.out]
    rintro e3 w3 ⟨A3, n3, c3, rfl, hO3, hE3⟩
    have HO3 := Lib.hid hO3
    have hbd := hO3.bd
    have hz3 := sz_of hE3; (try simp only [World.size_alloc, World.size_setCell, World.size_drew] at hz3); obtain ⟨hc3, hf3⟩ := bcell hE3; (try have hq3_0 : w.heap.size < w3.heap.size := by omega); (try have hq3_1 : w.heap.size + 1 < w3.heap.size := by omega); (try have hq3_2 : w.heap.size + 1 + 1 < w3.heap.size := by omega); (try have hq3_3 : w.heap.size + 1 + 1 + 1 < w3.heap.size := by omega); (try have hq3_4 : w.heap.size + 1 + 1 + 1 + 1 < w3.heap.size := by omega); (try have hq3_5 : w.heap.size + 1 + 1 + 1 + 1 + 1 < w3.heap.size := by omega); (try have hx3_1 : w1.heap.size < w3.heap.size := by omega); (try have hx3_2 : w2.heap.size < w3.heap.size := by omega)
    clear hO3
    go_wp2_with fail
    refine bodyPost_ret (v := .tuple #[.agg #[.int .i64 (rp of).c, .slice A3 n3 c3], .bool of.isSome]) (by simp [results, Try.results11, go_sem, *]) rfl ?_
    rw [HR.out, ← HOF.out]
    refine ⟨A3, n3, c3, rfl, ?_, by exact extX⟩
    have h3 := HO3.out.lower (B' := w.heap.size) (by go_size)
    refine OwI.setFar (OwI.setFar h3 _ (fun g o s e => ?_)) _ (fun g o s e => ?_)
    · have := (hbd g o s e).1; show g ≠ w.heap.size + 1; omega
    · have := (hbd g o s e).1; show g ≠ w.heap.size + 1; omega

/-! The comparisons of the reference. -/
theorem cmpLess_O (ar : List Int) (ps : List Pl) (s t : List Int) : (polyArgs ar ps s t && cmpLess (form ps (tmOf ar s)) (form ps (tmOf ar t))) = cmpLess (formO ar ps s) (formO ar ps t) := by
  unfold polyArgs formO
  cases polysOk ar ps <;> cases termOk ar s <;> cases termOk ar t <;> simp [cmpLess]
theorem cmpMost_O (ar : List Int) (ps : List Pl) (s t : List Int) : (polyArgs ar ps s t && cmpMost (form ps (tmOf ar s)) (form ps (tmOf ar t))) = cmpMost (formO ar ps s) (formO ar ps t) := by
  unfold polyArgs formO
  cases polysOk ar ps <;> cases termOk ar s <;> cases termOk ar t <;> simp [cmpMost]
theorem Fm.nn {f : Pl} (h : Fm f) : ∀ y ∈ f.cf, 0 ≤ y := fun y hy => (h.1.2 y hy).1
set_option maxRecDepth 100000 in
set_option maxHeartbeats 2000000 in
theorem c_sPolyLess {v0 v1 v2 v3 : Value} {ar : List Int} {ps : List Pl} {s t : List Int} {w : World} (h0 : RdSig w v0 ar) (h1 : RdPs w v1 ps) (h2 : RdIc w v2 s) (h3 : RdIc w v3 t) :
    Calls Try.prog 58 #[v0, v1, v2, v3] w fun e w' => e = .returned (.bool (polyArgs ar ps s t && cmpLess (form ps (tmOf ar s)) (form ps (tmOf ar t)))) ∧ Ext w w' := by
  rw [cmpLess_O]
  obtain ⟨A, n, c, rfl, ha⟩ := h0
  obtain ⟨B, m, d, rfl, hb⟩ := h1
  obtain ⟨D, q, l, rfl, hcap, hd⟩ := h2
  obtain ⟨F, q', l', rfl, hcap', hf⟩ := h3
  have HA := Lib.hid ha
  have HB := Lib.hid hb
  have HD := Lib.hid hd
  have HF := Lib.hid hf
  have HCP := Lib.hid hcap
  have HCP' := Lib.hid hcap'
  clear ha hb hd hf hcap hcap'
  obtain ⟨oa, hoa⟩ : ∃ oa, oa = formO ar ps s := ⟨_, rfl⟩
  obtain ⟨ob, hob⟩ : ∃ ob, ob = formO ar ps t := ⟨_, rfl⟩
  rw [← hoa, ← hob]
  have HOA := Lib.hid hoa
  have HOB := Lib.hid hob
  clear hoa hob
  go_enter Try.func58, Try.ntmps58
  go_wp2_with fail
  (with_reducible refine (c_sFormOf (t := s) (RdSig.mk (RI.ext HA.out (by exact extX))) (RdPs.mk (RP.ext HB.out (by exact extX))) (RdIc.mk HCP.out (RI.ext HD.out (by exact extX)))).mono ?_)
  rw [← HOA.out]
  rintro e2 w2 ⟨A2, n2, c2, rfl, hO2, hE2⟩
  have HL2 := Lib.hid hO2.ri
  have hs0 : w2.cell? ⟨w.heap.size, 0, none⟩ = some (.slice A n c) := Ext.keep hE2 (by simp [go_sem])
  have hEw2 : Ext w w2 := Ext.trans (by exact extX) hE2
  have hlt2 : w.heap.size < w2.heap.size := World.block_lt_of_cell? w2 _ hs0
  clear hO2 hE2
  go_wp2_with fail
  obtain ⟨wq, hwq⟩ : ∃ wq, wq = w2.alloc (.cells #[.int .i64 (rp oa).c, .slice A2 n2 c2] 38) := ⟨_, rfl⟩
  have hg0 : wq.cell? ⟨w2.heap.size, 0, none⟩ = some (.int .i64 (rp oa).c) := by rw [hwq]; simp [go_sem]
  have hg1 : wq.cell? ⟨w2.heap.size, 1, none⟩ = some (.slice A2 n2 c2) := by rw [hwq]; simp [go_sem]
  have hEq : Ext w2 wq := by rw [hwq]; exact (Ext.refl _).alloc _
  rw [← hwq]
  clear hwq
  have hEwq : Ext w wq := Ext.trans hEw2 hEq
  (with_reducible refine (c_sFormOf (t := t) (RdSig.mk (RI.ext HA.out hEwq)) (RdPs.mk (RP.ext HB.out hEwq)) (RdIc.mk HCP'.out (RI.ext HF.out hEwq))).mono ?_)
  rw [← HOB.out]
  rintro e3 w3 ⟨A3, n3, c3, rfl, hO3, hE3⟩
  have HL3 := Lib.hid hO3.ri
  have hk0 := Ext.keep hE3 hg0
  have hk1 := Ext.keep hE3 hg1
  have hkl : w2.heap.size < w3.heap.size := World.block_lt_of_cell? w3 _ hk0
  have hE23 : Ext w2 w3 := Ext.trans hEq hE3
  have hEw3 : Ext w w3 := Ext.trans hEwq hE3
  clear hO3 hg0 hg1
  cases oa with
  | none =>
    go_wp2
    go_ret
    exact ⟨rfl, by exact extX⟩
  | some a =>
    cases ob with
    | none =>
      go_wp2
      go_ret
      exact ⟨rfl, by exact extX⟩
    | some b =>
      have HNN := Lib.hid (Fm.nn (formO_fm HOB.out.symm))
      have e1 : (rp (some a)).c = a.c := rfl
      have e2 : (rp (some b)).c = b.c := rfl
      rw [e1] at hk0
      by_cases hlt : a.c < b.c
      · have hd0 : decide (a.c < b.c) = true := by simpa using hlt
        go_wp2_with (go_at_call 84; (with_reducible refine (c_l15Most (a := a) (b := b) (RdPl.mk (RI.ext HL2.out (by exact extX))) (RdPl.mk (RI.ext HL3.out (by exact extX))) HNN.out).mono ?_); rintro e4 w4 ⟨rfl, hE4⟩)
        go_ret
        exact ⟨ret_bool (by simp [cmpLess, hlt]), by exact extX⟩
      · have hd0 : decide (a.c < b.c) = false := by simpa using hlt
        go_wp2
        go_ret
        exact ⟨ret_bool (by simp [cmpLess, hlt]), by exact extX⟩
set_option maxRecDepth 100000 in
set_option maxHeartbeats 2000000 in
theorem c_sPolyAtMost {v0 v1 v2 v3 : Value} {ar : List Int} {ps : List Pl} {s t : List Int} {w : World} (h0 : RdSig w v0 ar) (h1 : RdPs w v1 ps) (h2 : RdIc w v2 s) (h3 : RdIc w v3 t) :
    Calls Try.prog 59 #[v0, v1, v2, v3] w fun e w' => e = .returned (.bool (polyArgs ar ps s t && cmpMost (form ps (tmOf ar s)) (form ps (tmOf ar t)))) ∧ Ext w w' := by
  rw [cmpMost_O]
  obtain ⟨A, n, c, rfl, ha⟩ := h0
  obtain ⟨B, m, d, rfl, hb⟩ := h1
  obtain ⟨D, q, l, rfl, hcap, hd⟩ := h2
  obtain ⟨F, q', l', rfl, hcap', hf⟩ := h3
  have HA := Lib.hid ha
  have HB := Lib.hid hb
  have HD := Lib.hid hd
  have HF := Lib.hid hf
  have HCP := Lib.hid hcap
  have HCP' := Lib.hid hcap'
  clear ha hb hd hf hcap hcap'
  obtain ⟨oa, hoa⟩ : ∃ oa, oa = formO ar ps s := ⟨_, rfl⟩
  obtain ⟨ob, hob⟩ : ∃ ob, ob = formO ar ps t := ⟨_, rfl⟩
  rw [← hoa, ← hob]
  have HOA := Lib.hid hoa
  have HOB := Lib.hid hob
  clear hoa hob
  go_enter Try.func59, Try.ntmps59
  go_wp2_with fail
  (with_reducible refine (c_sFormOf (t := s) (RdSig.mk (RI.ext HA.out (by exact extX))) (RdPs.mk (RP.ext HB.out (by exact extX))) (RdIc.mk HCP.out (RI.ext HD.out (by exact extX)))).mono ?_)
  rw [← HOA.out]
  rintro e2 w2 ⟨A2, n2, c2, rfl, hO2, hE2⟩
  have HL2 := Lib.hid hO2.ri
  have hs0 : w2.cell? ⟨w.heap.size, 0, none⟩ = some (.slice A n c) := Ext.keep hE2 (by simp [go_sem])
  have hEw2 : Ext w w2 := Ext.trans (by exact extX) hE2
  have hlt2 : w.heap.size < w2.heap.size := World.block_lt_of_cell? w2 _ hs0
  clear hO2 hE2
  go_wp2_with fail
  obtain ⟨wq, hwq⟩ : ∃ wq, wq = w2.alloc (.cells #[.int .i64 (rp oa).c, .slice A2 n2 c2] 38) := ⟨_, rfl⟩
  have hg0 : wq.cell? ⟨w2.heap.size, 0, none⟩ = some (.int .i64 (rp oa).c) := by rw [hwq]; simp [go_sem]
  have hg1 : wq.cell? ⟨w2.heap.size, 1, none⟩ = some (.slice A2 n2 c2) := by rw [hwq]; simp [go_sem]
  have hEq : Ext w2 wq := by rw [hwq]; exact (Ext.refl _).alloc _
  rw [← hwq]
  clear hwq
  have hEwq : Ext w wq := Ext.trans hEw2 hEq
  (with_reducible refine (c_sFormOf (t := t) (RdSig.mk (RI.ext HA.out hEwq)) (RdPs.mk (RP.ext HB.out hEwq)) (RdIc.mk HCP'.out (RI.ext HF.out hEwq))).mono ?_)
  rw [← HOB.out]
  rintro e3 w3 ⟨A3, n3, c3, rfl, hO3, hE3⟩
  have HL3 := Lib.hid hO3.ri
  have hk0 := Ext.keep hE3 hg0
  have hk1 := Ext.keep hE3 hg1
  have hkl : w2.heap.size < w3.heap.size := World.block_lt_of_cell? w3 _ hk0
  have hE23 : Ext w2 w3 := Ext.trans hEq hE3
  have hEw3 : Ext w w3 := Ext.trans hEwq hE3
  clear hO3 hg0 hg1
  cases oa with
  | none =>
    go_wp2
    go_ret
    exact ⟨rfl, by exact extX⟩
  | some a =>
    cases ob with
    | none =>
      go_wp2
      go_ret
      exact ⟨rfl, by exact extX⟩
    | some b =>
      have HNN := Lib.hid (Fm.nn (formO_fm HOB.out.symm))
      have e1 : (rp (some a)).c = a.c := rfl
      have e2 : (rp (some b)).c = b.c := rfl
      rw [e1] at hk0
      by_cases hlt : a.c ≤ b.c
      · have hd0 : decide (a.c ≤ b.c) = true := by simpa using hlt
        go_wp2_with (go_at_call 84; (with_reducible refine (c_l15Most (a := a) (b := b) (RdPl.mk (RI.ext HL2.out (by exact extX))) (RdPl.mk (RI.ext HL3.out (by exact extX))) HNN.out).mono ?_); rintro e4 w4 ⟨rfl, hE4⟩)
        go_ret
        exact ⟨ret_bool (by simp [cmpMost, hlt]), by exact extX⟩
      · have hd0 : decide (a.c ≤ b.c) = false := by simpa using hlt
        go_wp2
        go_ret
        exact ⟨ret_bool (by simp [cmpMost, hlt]), by exact extX⟩

end Go.Proofs.Ytljbjabgdalabaa
