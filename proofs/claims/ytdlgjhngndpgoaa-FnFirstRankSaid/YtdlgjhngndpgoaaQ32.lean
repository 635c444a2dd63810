/- Several texts in one: LpsQ, OpenT, Dice, DicT, MSub. -/
import Derived.Test.YtdlgjhngndpgoaaQ15
import Derived.Test.YtdlgjhngndpgoaaQ18
import Derived.Test.YtdlgjhngndpgoaaQ31
import Derived.Test.YtdlgjhngndpgoaaQ10
import Derived.ProofKit
import Derived.OpenShut
import Derived.ShutString
import Derived.ChangeOld
import Derived.Lib.SmallJoins
import Derived.Test.YtdlgjhngndpgoaaQ12
import Derived.BigQuiet
import Derived.Test.YtdlgjhngndpgoaaQ16
import Derived.Test.YtdlgjhngndpgoaaQ17
import Derived.Test.YtdlgjhngndpgoaaQ13
namespace Go.Proofs.Ytdlgjhngndpgoaa
open Go.RowKit
set_option linter.unusedSimpArgs false
set_option linter.unusedVariables false
theorem c_l13BagO {v0 v1 v2 v3 : Value} {ar rk s t : List Int} {b : Bool} {w : World} (hok : lpoArgs ar rk s t = true) (hb : decide (0 < lpoA ar rk false s t) = b) (h0 : RdSig w v0 ar) (h1 : RdI w v1 rk) (h2 : RdIc w v2 s) (h3 : RdIc w v3 t) :
    Calls Try.prog 32 #[v0, v1, v2, v3] w fun e w' => e = .returned (.bool b) ∧ Ext w w' := by
  obtain ⟨A, n, c, rfl, ha⟩ := h0
  obtain ⟨R, rn, rc, rfl, hr⟩ := h1
  obtain ⟨D, k, l, rfl, hkl, hd⟩ := h2
  obtain ⟨B, m, d, rfl, hmd, hbb⟩ := h3
  obtain ⟨⟨g1, g2⟩, g3, g4, g5⟩ := lpoArgs_iff.1 hok
  subst hb
  exact c_l13Bag g3 g4 g2 g1 ha hr hbb hd hmd hkl
theorem z0q32 {p : Prop} (h : p := by (first | (first | (with_reducible exact RdI.mk (RI.ext (Hid.out (by with_reducible assumption)) (by exact extX))) | (with_reducible exact RdI.ext (by with_reducible assumption) (by exact extX))) | (with_reducible exact RdSyK.mk (by (first | (with_reducible exact RI.ext (Hid.out (by with_reducible assumption)) (by exact extX)))) (RR.ext (Hid.out (by with_reducible assumption)) (by exact extX))) | (with_reducible exact RdSyK.ext (by with_reducible assumption) (by exact extX)) | (with_reducible exact RdSig.mk (by (first | (with_reducible exact RI.ext (Hid.out (by with_reducible assumption)) (by exact extX))))) | (with_reducible exact RdSig.ext (by with_reducible assumption) (by exact extX)))) : p := h
set_option maxRecDepth 100000 in
set_option maxHeartbeats 2000000 in
theorem c_sOrientsBags {v0 v1 : Value} {s : Sy} {rk : List Int} {w : World} (h0 : RdSyC w v0 s) (h1 : RdI w v1 rk) :
    Calls Try.prog 13 #[v0, v1] w fun e w' => e = .returned (.bool (orientsV false s rk)) ∧ Ext w w' := by
  obtain ⟨A, n, c, B, m, d, rfl, ha, hb⟩ := h0
  obtain ⟨R, q, f, rfl, hrk⟩ := h1
  have hm := hb.le
  have HL := Lib.hid hb.len
  have HA := Lib.hid ha
  have HB := Lib.hid hb
  have HRK := Lib.hid hrk
  clear ha hb hrk
  cases hs : sysOk s with
  | false =>
    have HR := Lib.hid (orientsV_sys (lex := false) (rk := rk) hs)
    go_enter Try.func13, Try.ntmps13
    go_wp2_with (go_at_call 29; (with_reducible refine (c_sSystemOk (s := s) z0q32).mono ?_); rintro e w1 ⟨rfl, hE1⟩; have hz1 := sz_of hE1; (try simp only [World.size_alloc, World.size_setCell, World.size_drew] at hz1); obtain ⟨hc1, hf1⟩ := bcell hE1; (try have hq1_0 : w.heap.size < w1.heap.size := by omega); (try have hq1_1 : w.heap.size + 1 < w1.heap.size := by omega); (try have hq1_2 : w.heap.size + 1 + 1 < w1.heap.size := by omega); (try have hq1_3 : w.heap.size + 1 + 1 + 1 < w1.heap.size := by omega); (try have hq1_4 : w.heap.size + 1 + 1 + 1 + 1 < w1.heap.size := by omega); (try have hq1_5 : w.heap.size + 1 + 1 + 1 + 1 + 1 < w1.heap.size := by omega))
    go_ret
    exact ⟨ret_bool HR.out.symm, by exact extX⟩
  | true =>
    cases hk : rankOk s.ar rk with
    | false =>
      have HR := Lib.hid (orientsV_rank (lex := false) hs hk)
      go_enter Try.func13, Try.ntmps13
      go_wp2_with (first
        | (go_at_call 29; (with_reducible refine (c_sSystemOk (s := s) z0q32).mono ?_); rintro e w1 ⟨rfl, hE1⟩; have hz1 := sz_of hE1; (try simp only [World.size_alloc, World.size_setCell, World.size_drew] at hz1); obtain ⟨hc1, hf1⟩ := bcell hE1; (try have hq1_0 : w.heap.size < w1.heap.size := by omega); (try have hq1_1 : w.heap.size + 1 < w1.heap.size := by omega); (try have hq1_2 : w.heap.size + 1 + 1 < w1.heap.size := by omega); (try have hq1_3 : w.heap.size + 1 + 1 + 1 < w1.heap.size := by omega); (try have hq1_4 : w.heap.size + 1 + 1 + 1 + 1 < w1.heap.size := by omega); (try have hq1_5 : w.heap.size + 1 + 1 + 1 + 1 + 1 < w1.heap.size := by omega))
        | (go_at_call 30; (with_reducible refine (c_sRankOk (ar := s.ar) (rk := rk) z0q32 z0q32).mono ?_); rintro e w2 ⟨rfl, hE2⟩; have hz2 := sz_of hE2; (try simp only [World.size_alloc, World.size_setCell, World.size_drew] at hz2); obtain ⟨hc2, hf2⟩ := bcell hE2; (try have hq2_0 : w.heap.size < w2.heap.size := by omega); (try have hq2_1 : w.heap.size + 1 < w2.heap.size := by omega); (try have hq2_2 : w.heap.size + 1 + 1 < w2.heap.size := by omega); (try have hq2_3 : w.heap.size + 1 + 1 + 1 < w2.heap.size := by omega); (try have hq2_4 : w.heap.size + 1 + 1 + 1 + 1 < w2.heap.size := by omega); (try have hq2_5 : w.heap.size + 1 + 1 + 1 + 1 + 1 < w2.heap.size := by omega); (try have hx2_1 : w1.heap.size < w2.heap.size := by omega)))
      go_ret
      exact ⟨ret_bool HR.out.symm, by exact extX⟩
    | true =>
      have HR0 := Lib.hid (orientsV_all (lex := false) hs hk)
      have HS := Lib.hid (sysOk_iff.1 hs)
      have HK := Lib.hid hk
      clear hs hk
      have hsok : sysOk s = true := sysOk_iff.2 HS.out
      have hkok : rankOk s.ar rk = true := HK.out
      go_enter Try.func13, Try.ntmps13
      go_wp2_with fail
      (with_reducible refine (c_sSystemOk (s := s) z0q32).mono ?_); rintro e w1 ⟨rfl, hE1⟩; have hz1 := sz_of hE1; (try simp only [World.size_alloc, World.size_setCell, World.size_drew] at hz1); obtain ⟨hc1, hf1⟩ := bcell hE1; (try have hq1_0 : w.heap.size < w1.heap.size := by omega); (try have hq1_1 : w.heap.size + 1 < w1.heap.size := by omega); (try have hq1_2 : w.heap.size + 1 + 1 < w1.heap.size := by omega); (try have hq1_3 : w.heap.size + 1 + 1 + 1 < w1.heap.size := by omega); (try have hq1_4 : w.heap.size + 1 + 1 + 1 + 1 < w1.heap.size := by omega); (try have hq1_5 : w.heap.size + 1 + 1 + 1 + 1 + 1 < w1.heap.size := by omega)
      have hs0 : w1.cell? ⟨w.heap.size, 0, none⟩ = some (.slice A n c) := Ext.keep hE1 (by simp [go_sem])
      have hs1 : w1.cell? ⟨w.heap.size, 1, none⟩ = some (.slice B m d) := Ext.keep hE1 (by simp [go_sem])
      go_wp2_with fail
      (with_reducible refine (c_sRankOk (ar := s.ar) (rk := rk) z0q32 z0q32).mono ?_); rintro e w2 ⟨rfl, hE2⟩; have hz2 := sz_of hE2; (try simp only [World.size_alloc, World.size_setCell, World.size_drew] at hz2); obtain ⟨hc2, hf2⟩ := bcell hE2; (try have hq2_0 : w.heap.size < w2.heap.size := by omega); (try have hq2_1 : w.heap.size + 1 < w2.heap.size := by omega); (try have hq2_2 : w.heap.size + 1 + 1 < w2.heap.size := by omega); (try have hq2_3 : w.heap.size + 1 + 1 + 1 < w2.heap.size := by omega); (try have hq2_4 : w.heap.size + 1 + 1 + 1 + 1 < w2.heap.size := by omega); (try have hq2_5 : w.heap.size + 1 + 1 + 1 + 1 + 1 < w2.heap.size := by omega); (try have hx2_1 : w1.heap.size < w2.heap.size := by omega)
      have hw0 : w2.cell? ⟨w.heap.size, 0, none⟩ = some (.slice A n c) := Ext.keep hE2 hs0
      have hw1 : w2.cell? ⟨w.heap.size, 1, none⟩ = some (.slice B m d) := Ext.keep hE2 hs1
      have hEo : Ext w w2 := by exact extX
      go_wp2_with fail
      go_loopw [5] (fun i wr => ∃ k : Nat, i = .int .i64 k ∧ k ≤ m ∧ Hid (∀ (j : Nat) (r : Ru), j < k → s.rs[j]? = some r → lpoA s.ar rk false r.r r.l ≠ 0) ∧ Ext w2 wr) (fun i _ => m - (intOf i).toNat)
      case atStart => exact ⟨0, rfl, Nat.zero_le _, Lib.hid fun j y hj => by omega, Ext.refl _⟩
      case round =>
        obtain ⟨k, rfl, hk, hp, hE9⟩ := hrel
        have hw : Ext w wr := Ext.trans hEo hE9
        have hr0 : wr.cell? ⟨w.heap.size, 0, none⟩ = some (.slice A n c) := Ext.keep hE9 hw0
        have hr1' : wr.cell? ⟨w.heap.size, 1, none⟩ = some (.slice B m d) := Ext.keep hE9 hw1
        have hws0 : w.heap.size < wr.heap.size := World.block_lt_of_cell? wr _ hr0
        by_cases hlt : k < m
        · obtain ⟨b, o, r, A1, m1, c1, A2, m2, c2, rfl, hx, hd1, hd2, hr1, hr5, hcap1, hcap2⟩ := RR.at_ (RR.ext HB.out hw) hlt
          have hEd : Ext wr wr.drew := (Ext.refl wr).drew
          have hEwd : Ext w wr.drew := hw.drew
          have HX := Lib.hid hx
          have HR1 := Lib.hid (hr1.ext hEd)
          have HR2 := Lib.hid (hr5.ext hEd)
          have HC1 := Lib.hid (hcap1 rfl)
          have HC2 := Lib.hid (hcap2 rfl)
          have HOK := Lib.hid (lpoArgs_rule HS.out HK.out hx)
          have hbl : b < wr.heap.size := World.block_lt_of_cell? wr _ hd1
          clear hx hr1 hr5 hcap1 hcap2
          have hlt' : (k : Int) < (m : Int) := by omega
          obtain ⟨V, hV⟩ : ∃ V, decide (0 < lpoA s.ar rk false r.r r.l) = V := ⟨_, rfl⟩
          have HV := Lib.hid hV
          clear hV
          by_cases hz : V = false
          · have HR := Lib.hid (lpAll_f (lex := false) (rk := rk) HX.out (by have := HV.out; rw [hz, decide_eq_false_iff_not] at this; omega))
            have hzb : (!V) = true := by rw [hz]; rfl
            clear hz
            go_wp2_with fail
            go_still_tail 15, (by kernel_rfl)
            change wpList _ _ _ _ _ wr.drew
            go_wp2_with fail
            (with_reducible refine (c_l13BagO HOK.out HV.out (RdSig.mk (RI.ext HA.out hEwd)) (RdI.mk (RI.ext HRK.out hEwd)) (RdIc.mk HC2.out HR2.out) (RdIc.mk HC1.out HR1.out)).mono ?_)
            rintro e w5 ⟨rfl, hE5⟩
            go_wp2
            go_ret
            exact ⟨ret_bool (by rw [HR0.out, HR.out]), Ext.trans hEwd hE5⟩
          · have hzb : (!V) = false := by cases V with | false => exact absurd rfl hz | true => rfl
            have HP := Lib.hid (show ∀ (j : Nat) (r : Ru), j < k + 1 → s.rs[j]? = some r → lpoA s.ar rk false r.r r.l ≠ 0 from fun j y hj e => by
              rcases Nat.lt_or_ge j k with h' | h'
              · exact hp.out j y h' e
              · obtain rfl : j = k := by omega
                rw [HX.out] at e; cases e; have := HV.out; rw [show V = true by cases V with | false => exact absurd rfl hz | true => rfl, decide_eq_true_eq] at this; omega)
            clear hz
            go_wp2_with fail
            go_still_tail 15, (by kernel_rfl)
            change wpList _ _ _ _ _ wr.drew
            go_wp2_with fail
            (with_reducible refine (c_l13BagO HOK.out HV.out (RdSig.mk (RI.ext HA.out hEwd)) (RdI.mk (RI.ext HRK.out hEwd)) (RdIc.mk HC2.out HR2.out) (RdIc.mk HC1.out HR1.out)).mono ?_)
            rintro e w5 ⟨rfl, hE5⟩
            go_wp2
            go_roundw
            case rel => exact ⟨k + 1, by go_num, by omega, HP, Ext.trans hE9 (Ext.trans hEd hE5)⟩
            case measure => simp only [intOf]; omega
        · have HR := Lib.hid (lpAll_t (s := s) (rk := rk) (lex := false) fun j r hj e => hp.out j r (by rw [HL.out] at hj; omega) e)
          go_wp2
          go_ret
          exact ⟨ret_bool (by rw [HR0.out, HR.out]), by exact extX⟩
end Go.Proofs.Ytdlgjhngndpgoaa
namespace Go.Proofs.Ytdlgjhngndpgoaa
open Go.ChangeShapes Go.WideShapes Go.ChangeAt Go.RowKit Go.Joins Go.Deep
set_option linter.unusedSimpArgs false
set_option linter.unusedVariables false
set_option linter.constructorNameAsVariable false
theorem own : ownKnob Try.prog.godebug = none := by kernel_rfl
theorem laidOut : laidOutB Try.prog = true := by kernel_rfl
section
variable {H : Type} {enc : TypeId × Value → H} {w : World} {base b0 : Nat} {held : Bool} {r : Reach}
end
end Go.Proofs.Ytdlgjhngndpgoaa
namespace Go.Proofs.Ytdlgjhngndpgoaa
open Go.RowKit
set_option linter.unusedSimpArgs false
set_option linter.unusedVariables false
def RawBy (w : World) (v : Value) (n : Nat) : Prop := ∃ A c, v = .slice A n c ∧ n ≤ 9223372036854775807 ∧ (0 < n → ∃ b o, A = some ⟨b, o, none⟩ ∧ ∀ j, j < n → ∃ y : Int, w.cell? ⟨b, o + j, none⟩ = some (.int .u8 y) ∧ 0 ≤ y ∧ y ≤ 255)
structure Dice (w : World) (g : Nat) : Prop where
  at_ : ∃ (B : Option Addr) (n c i : Nat) (h : Int), w.cell? ⟨g, 0, none⟩ = some (.slice B n c) ∧ w.cell? ⟨g, 1, none⟩ = some (.int .i64 (i : Int)) ∧ w.cell? ⟨g, 2, none⟩ = some (.int .u64 h) ∧ i ≤ n ∧ n ≤ 4096 ∧
    (0 < n → ∃ b o, B = some ⟨b, o, none⟩ ∧ b < g ∧ ∀ j, j < n → ∃ y : Int, w.cell? ⟨b, o + j, none⟩ = some (.int .u8 y) ∧ 0 ≤ y ∧ y ≤ 255)
  fr : ∀ j, w.frozen? ⟨g, j, none⟩ = false
theorem Dice.ext {w w' : World} {g : Nat} (h : Dice w g) (k : Ext w w') : Dice w' g := by
  obtain ⟨⟨B, n, c, i, hh, h0, h1, h2, hi, hn, hb⟩, hf⟩ := h
  refine ⟨⟨B, n, c, i, hh, Ext.keep k h0, Ext.keep k h1, Ext.keep k h2, hi, hn, fun h3 => ?_⟩, fun j => (Below.frozen (p := ⟨g, j, none⟩) k (show g < w.heap.size from World.block_lt_of_cell? w ⟨g, 0, none⟩ h0)).trans (hf j)⟩
  obtain ⟨b, o, e, hne, h4⟩ := hb h3
  exact ⟨b, o, e, hne, fun j hj => by obtain ⟨y, h5, h6⟩ := h4 j hj; exact ⟨y, Ext.keep k h5, h6⟩⟩
theorem Dice.below {w w' : World} {g : Nat} (h : Dice w g) (k : Below (g + 1) w w') : Dice w' g := by
  obtain ⟨⟨B, n, c, i, hh, h0, h1, h2, hi, hn, hb⟩, hf⟩ := h
  have hg : g < g + 1 := Nat.lt_succ_self g
  refine ⟨⟨B, n, c, i, hh, (Below.cell (p := ⟨g, 0, none⟩) k hg).trans h0, (Below.cell (p := ⟨g, 1, none⟩) k hg).trans h1, (Below.cell (p := ⟨g, 2, none⟩) k hg).trans h2, hi, hn, fun h3 => ?_⟩, fun j => (Below.frozen (p := ⟨g, j, none⟩) k hg).trans (hf j)⟩
  obtain ⟨b, o, e, hne, h4⟩ := hb h3
  exact ⟨b, o, e, hne, fun j hj => by obtain ⟨y, h5, h6⟩ := h4 j hj; exact ⟨y, (Below.cell (p := ⟨b, o + j, none⟩) k (show b < g + 1 by omega)).trans h5, h6⟩⟩
theorem Dice.lt {w : World} {g : Nat} (h : Dice w g) : g < w.heap.size := by
  obtain ⟨⟨B, n, c, i, hh, h0, _⟩, _⟩ := h
  exact World.block_lt_of_cell? w _ h0
theorem bits24 (s : Int) : 0 ≤ bits BinOp.and IntKind.u64 s 16777215 ∧ bits BinOp.and IntKind.u64 s 16777215 ≤ 16777215 := by
  have h1 : (BitVec.ofInt 64 s &&& BitVec.ofInt 64 16777215).toNat ≤ 16777215 := by
    rw [BitVec.toNat_and, show (BitVec.ofInt 64 16777215).toNat = 16777215 by decide]
    exact Nat.and_le_right
  have h2 : bits BinOp.and IntKind.u64 s 16777215 = (((BitVec.ofInt 64 s &&& BitVec.ofInt 64 16777215).toNat : Nat) : Int) := by
    show IntKind.u64.wrap (((BitVec.ofInt 64 s &&& BitVec.ofInt 64 16777215).toNat : Nat) : Int) = _
    exact IntWalk.u64_in _ (by omega)
  rw [h2]; omega
theorem rem_bd {x n : Int} (hn : 1 ≤ n) : 0 ≤ x % n ∧ x % n < n := ⟨Int.emod_nonneg _ (by omega), Int.emod_lt_of_pos _ (by omega)⟩
set_option maxRecDepth 100000 in
set_option maxHeartbeats 2000000 in
theorem c_below {g : Nat} {n : Int} {w : World} (h0 : Dice w g) (hn : 1 ≤ n) (hn2 : n ≤ 1000) :
    Calls Try.prog 25 #[.pointer (some ⟨g, 0, none⟩), .int .i64 n] w fun e w' => ∃ x : Int, e = .returned (.int .i64 x) ∧ (0 ≤ x ∧ x < n) ∧ Dice w' g ∧ Only w w' g := by
  obtain ⟨⟨B, m, c, i, hh, d0, d1, d2, hi, hm, hb⟩, hf⟩ := h0
  have hgl : g < w.heap.size := World.block_lt_of_cell? w _ d0
  have HBY := Lib.hid hb
  have hn0 : n ≠ 0 := by omega
  clear hb
  go_enter Try.func25, Try.ntmps25
  go_wp2_with fail
  have hx1 := bits24 (IntKind.u64.wrap (IntKind.u64.wrap (hh * 6364136223846793005) + 1442695040888963407) / 8589934592)
  have hx2 := IntWalk.wrap64_in (bits BinOp.and IntKind.u64 (IntKind.u64.wrap (IntKind.u64.wrap (hh * 6364136223846793005) + 1442695040888963407) / 8589934592) 16777215) (by omega)
  rw [hx2]
  clear hx2
  generalize bits BinOp.and IntKind.u64 (IntKind.u64.wrap (IntKind.u64.wrap (hh * 6364136223846793005) + 1442695040888963407) / 8589934592) 16777215 = x at hx1 ⊢
  generalize IntKind.u64.wrap (IntKind.u64.wrap (hh * 6364136223846793005) + 1442695040888963407) = h'
  obtain ⟨w1, hw1⟩ : ∃ w1, w1 = w.setCell ⟨g, 2, none⟩ (.int .u64 h') := ⟨_, rfl⟩
  have hO1 : Only w w1 g := by rw [hw1]; exact Only.setCell _ _ _ _
  have e0 : w1.cell? ⟨g, 0, none⟩ = some (.slice B m c) := by rw [hw1]; exact (World.cell?_setCell_other _ _ _ _ (by simp)).trans d0
  have e1 : w1.cell? ⟨g, 1, none⟩ = some (.int .i64 (i : Int)) := by rw [hw1]; exact (World.cell?_setCell_other _ _ _ _ (by simp)).trans d1
  have e2 : w1.cell? ⟨g, 2, none⟩ = some (.int .u64 h') := by rw [hw1]; exact World.cell?_setCell_same _ _ _ d2
  have ef : ∀ j, w1.frozen? ⟨g, j, none⟩ = false := by intro j; rw [hw1]; simp [hf]
  have HB1 := Lib.hid (show 0 < m → ∃ b o, B = some ⟨b, o, none⟩ ∧ b < g ∧ ∀ j, j < m → ∃ y : Int, w1.cell? ⟨b, o + j, none⟩ = some (.int .u8 y) ∧ 0 ≤ y ∧ y ≤ 255 from fun h3 => by
    obtain ⟨b, o, e, hne, h4⟩ := HBY.out h3
    exact ⟨b, o, e, hne, fun j hj => by obtain ⟨y, h5, h6⟩ := h4 j hj; exact ⟨y, by rw [hw1, World.cell?_setCell_other _ _ _ _ (by first | (simp; done) | (simp; omega))]; exact h5, h6⟩⟩)
  rw [← hw1]
  clear hw1
  by_cases hlt : i < m
  · obtain ⟨b, o, rfl, hne, h4⟩ := HB1.out (by omega)
    obtain ⟨y, hy, hy2⟩ := h4 i hlt
    have hlti : (i : Int) < (m : Int) := by omega
    have hi0 : (0 : Int) ≤ (i : Int) := by omega
    have hlt1 : decide ((i : Int) < (m : Int)) = true := by simp; omega
    have hxw : IntKind.i64.wrap (x + y) = x + y := IntWalk.i64_in _ (by omega)
    have hyw : wrap64 y = y := IntWalk.wrap64_in _ (by omega)
    have hr := rem_bd (x := x + y) hn
    go_wp2_with fail
    go_quiet (fail)
    go_wp2_with fail
    go_quiet (fail)
    go_wp2_with fail
    go_ret
    refine ⟨_, rfl, hr, ⟨⟨some ⟨b, o, none⟩, m, c, i + 1, h', ?_, ?_, ?_, by omega, hm, fun h3 => ⟨b, o, rfl, hne, fun j hj => ?_⟩⟩, fun j => ?_⟩, ?_⟩
    · exact (World.cell?_setCell_other _ _ _ _ (by simp)).trans e0
    · exact (World.cell?_setCell_same _ _ _ e1).trans (by simp)
    · exact (World.cell?_setCell_other _ _ _ _ (by simp)).trans e2
    · obtain ⟨z, h5, h6⟩ := h4 j hj
      exact ⟨z, (World.cell?_setCell_other _ _ _ _ (by first | (simp; done) | (simp; omega))).trans h5, h6⟩
    · simp [ef]
    · exact (hO1.trans (Only.of_ext ((Ext.refl w1).drewN _) g)).trans (Only.setCell _ _ _ _)
  · have hlt1 : decide ((i : Int) < (m : Int)) = false := by simp; omega
    have hlti : ¬ (i : Int) < (m : Int) := by omega
    have hr := rem_bd (x := x) hn
    go_wp2_with fail
    go_quiet (fail)
    go_wp2_with fail
    go_ret
    refine ⟨_, rfl, hr, Dice.ext ⟨⟨B, m, c, i, h', e0, e1, e2, hi, hm, fun h3 => ?_⟩, ef⟩ ((Ext.refl w1).drewN _), hO1.trans (Only.of_ext ((Ext.refl w1).drewN _) g)⟩
    exact HB1.out h3
end Go.Proofs.Ytdlgjhngndpgoaa
namespace Go.Proofs.Ytdlgjhngndpgoaa
open Go.RowKit
set_option linter.unusedSimpArgs false
set_option linter.unusedVariables false
def RIg (w : World) (g : Nat) (A : Option Addr) (n : Nat) (xs : List Int) : Prop := RI w A n xs ∧ ∀ b o s, A = some ⟨b, o, s⟩ → b ≠ g
theorem RIg.only {w w' : World} {g n : Nat} {A : Option Addr} {xs : List Int} (h : RIg w g A n xs) (k : Only w w' g) : RIg w' g A n xs := ⟨RI.only h.1 k fun b o s e _ => h.2 b o s e, h.2⟩
theorem OwI.fresh {w : World} (xs : List Int) (hn : xs.length ≤ 4194304) : OwI (w.alloc (.cells (xs.map (Value.int .i64)).toArray 2)) w.heap.size (some ⟨w.heap.size, 0, none⟩) xs.length xs.length xs := by
  refine ⟨hn, by simp, .inr ⟨w.heap.size, xs.length, _, rfl, Nat.le_refl _, heap_alloc_new w _, Nat.le_refl _, by unfold maxLen; omega, by simp, by simp [List.take_of_length_le]⟩⟩
theorem c_big {v : Value} {n : Nat} {b : Bool} {w : World} (hb : decide (4096 < n) = b) (h0 : RawBy w v n) : Calls Try.prog 6 #[v] w fun e w' => e = .returned (.bool b) ∧ Ext w w' := by
  obtain ⟨A, c, rfl, hn, _⟩ := h0
  go_enter Try.func6, Try.ntmps6
  go_wp2
  go_ret
  exact ⟨ret_bool (by rw [← hb]; simp; try omega), Ext.refl _⟩
set_option maxRecDepth 100000 in
set_option maxHeartbeats 2000000 in
theorem c_roll {v : Value} {n : Nat} {seed : Int} {w : World} (h0 : RawBy w v n) (hn : n ≤ 4096) :
    Calls Try.prog 7 #[v, .int .u64 seed] w fun e w' => ∃ g, e = .returned (.pointer (some ⟨g, 0, none⟩)) ∧ Dice w' g ∧ w.heap.size ≤ g ∧ Ext w w' := by
  obtain ⟨A, c, rfl, _, hb⟩ := h0
  have HB := Lib.hid hb
  clear hb
  go_enter Try.func7, Try.ntmps7
  go_wp2_with fail
  obtain ⟨wb, hwb⟩ : ∃ wb, wb = w.alloc (.cells #[.slice A n c, .int .i64 0, .int .u64 (IntKind.u64.wrap (IntKind.u64.wrap (seed * 7919) + (n : Int)))] 50) := ⟨_, rfl⟩
  have hS : Hid (∃ hh : Int, wb.cell? ⟨w.heap.size, 0, none⟩ = some (.slice A n c) ∧ wb.cell? ⟨w.heap.size, 1, none⟩ = some (.int .i64 0) ∧ wb.cell? ⟨w.heap.size, 2, none⟩ = some (.int .u64 hh) ∧ ∀ j, wb.frozen? ⟨w.heap.size, j, none⟩ = false) := Lib.hid ⟨_, by rw [hwb]; simp [go_sem], by rw [hwb]; simp [go_sem], by rw [hwb]; simp [go_sem]; rfl, fun j => by rw [hwb]; simp [go_sem]⟩
  have hEb : Ext w wb := by rw [hwb]; exact extX
  rw [← hwb]
  clear hwb
  go_loopw [6] (fun i wr => ∃ k : Nat, i = .int .i64 k ∧ k ≤ n ∧ Hid (∃ hh : Int, wr.cell? ⟨w.heap.size, 0, none⟩ = some (.slice A n c) ∧ wr.cell? ⟨w.heap.size, 1, none⟩ = some (.int .i64 0) ∧ wr.cell? ⟨w.heap.size, 2, none⟩ = some (.int .u64 hh) ∧ ∀ j, wr.frozen? ⟨w.heap.size, j, none⟩ = false) ∧ Ext w wr) (fun i _ => n - (intOf i).toNat)
  case atStart => exact ⟨0, rfl, Nat.zero_le _, hS, hEb⟩
  case round =>
    obtain ⟨k, rfl, hk, hT, hE⟩ := hrel
    obtain ⟨hh, c0, c1, c2, cf⟩ := hT.out
    have hgl : w.heap.size < wr.heap.size := World.block_lt_of_cell? wr _ c0
    by_cases hlt : k < n
    · obtain ⟨b, o, rfl, h4⟩ := HB.out (by omega)
      obtain ⟨y, hyw, hy2⟩ := h4 k hlt
      have hy := Ext.keep hE hyw
      have hki : (k : Int) < (n : Int) := by omega
      have hk0 : (0 : Int) ≤ (k : Int) := by omega
      have hbl : b < w.heap.size := World.block_lt_of_cell? w _ hyw
      go_wp2_with fail
      go_still_tail 13, (by kernel_rfl)
      change wpList _ _ _ _ _ wr.drew
      go_wp2_with fail
      go_roundw
      case rel => exact ⟨k + 1, by go_num, by omega, Lib.hid ⟨_, (World.cell?_setCell_other _ _ _ _ (by simp)).trans c0, (World.cell?_setCell_other _ _ _ _ (by simp)).trans c1, World.cell?_setCell_same _ _ _ c2, fun j => by simp [cf]⟩, by exact extX⟩
      case measure => simp only [intOf]; omega
    · go_wp2
      go_ret
      refine ⟨w.heap.size, rfl, ⟨⟨A, n, c, 0, hh, c0, c1, c2, Nat.zero_le _, hn, fun h3 => ?_⟩, cf⟩, Nat.le_refl _, hE⟩
      obtain ⟨b, o, e, h4⟩ := HB.out h3
      refine ⟨b, o, e, ?_, fun j hj => by obtain ⟨y, h5, h6⟩ := h4 j hj; exact ⟨y, Ext.keep hE h5, h6⟩⟩
      obtain ⟨y, h5, _⟩ := h4 0 h3
      exact World.block_lt_of_cell? w _ h5
theorem c_w9Sig {w : World} : Calls Try.prog 24 #[] w (NewSig w [2, 1, 0]) := by
  go_enter Try.func24, Try.ntmps24
  go_wp2_with fail
  have HO := Lib.hid (OwI.fresh (w := w.alloc (.cells #[.slice (some ⟨w.heap.size + 1, 0, none⟩) 3 3] 29)) [2, 1, 0] (by decide))
  refine bodyPost_ret (v := .agg #[.slice (some ⟨w.heap.size + 1, 0, none⟩) 3 3]) (by simp [results, Try.results24, go_sem]) rfl ⟨_, 3, 3, rfl, ?_, by exact extX⟩
  have := HO.out.lower (B' := w.heap.size) (by simp)
  simpa using this
set_option maxRecDepth 100000 in
set_option maxHeartbeats 1000000 in
theorem c_likeInts {v0 v1 : Value} {xs ys : List Int} {b : Bool} {w : World} (hb : (xs == ys) = b) (h0 : RdI w v0 xs) (h1 : RdI w v1 ys) :
    Calls Try.prog 11 #[v0, v1] w fun e w' => e = .returned (.bool b) ∧ Ext w w' := by
  subst hb
  obtain ⟨A, n, c, rfl, ha⟩ := h0
  obtain ⟨B, m, d, rfl, hb⟩ := h1
  have hn := ha.le
  have hm := hb.le
  by_cases hnm : n = m
  · subst hnm
    have hnn : ((n : Int) != (n : Int)) = false := by simp
    have HA := Lib.hid ha
    have HB := Lib.hid hb
    go_enter Try.func11, Try.ntmps11
    go_wp2
    go_loopw [5] (fun i wr => ∃ k : Nat, i = .int .i64 k ∧ k ≤ n ∧ Hid (∀ j, j < k → xs[j]? = ys[j]?) ∧ Ext w wr) (fun i _ => n - (intOf i).toNat)
    case atStart => exact ⟨0, rfl, Nat.zero_le _, fun j hj => by omega, Ext.refl _⟩
    case round =>
      obtain ⟨k, rfl, hk, hp, hw⟩ := hrel
      by_cases hlt : k < n
      · obtain ⟨b, o, x, rfl, hx, hcx⟩ := RI.at_ (RI.ext HA.out hw) hlt
        obtain ⟨b', o', y, rfl, hy, hcy⟩ := RI.at_ (RI.ext HB.out hw) hlt
        have HX := Lib.hid hx
        have HY := Lib.hid hy
        clear hx hy
        have hlt' : (k : Int) < (n : Int) := by omega
        go_wp2
        go_quiet (fail)
        go_wp2
        · have hne : (x != y) = true := by assumption
          go_ret
          exact ⟨ret_bool (beq_false_get HX.out HY.out (by simpa using hne)).symm, Ext.drewN hw _⟩
        · have hne : (x != y) = false := by assumption
          refine ⟨⟨k + 1, by go_num, by omega, fun j hj => ?_, Ext.drewN hw _⟩, by simp [intOf]; omega⟩
          rcases Nat.lt_or_ge j k with h | h
          · exact hp.out j h
          · obtain rfl : j = k := by omega
            rw [HX.out, HY.out]; simpa using hne
      · go_wp2
        go_ret
        refine ⟨ret_bool (beq_of_get ?_ fun j hj => ?_).symm, hw⟩
        · rw [HA.out.len, HB.out.len]
        · rw [HA.out.len] at hj; exact hp.out j (by omega)
  · have hnn : ((n : Int) != (m : Int)) = true := by simp; omega
    go_enter Try.func11, Try.ntmps11
    go_wp2
    go_ret
    exact ⟨ret_bool (beq_false_len (by rw [ha.len, hb.len]; exact hnm)).symm, Ext.refl _⟩
theorem RI.lit {w : World} {g : Nat} {xs : List Int} {T : TypeId} (hh : w.heap[g]? = some (.cells (xs.map (Value.int .i64)).toArray T (0, 0))) (hn : xs.length ≤ 4194304) : RI w (some ⟨g, 0, none⟩) xs.length xs :=
  ⟨⟨rfl, hn⟩, fun _ => ⟨g, 0, rfl, fun j x hx => by rw [Nat.zero_add, cell_of_row w g _ _ _ (0, 0) hh]; simp [hx]⟩⟩
def allocs (w : World) (os : List Obj) : World := os.foldl (fun w o => w.alloc o) w
theorem allocs_heap : ∀ (os : List Obj) (w : World), (allocs w os).heap = w.heap ++ os.toArray
  | [], w => by simp [allocs]
  | o :: os, w => by
    show (allocs (w.alloc o) os).heap = _
    rw [allocs_heap os (w.alloc o)]
    show w.heap.push o ++ os.toArray = _
    rw [Array.push_eq_append, Array.append_assoc]
    simp
theorem allocs_at (w : World) (os : List Obj) (j : Nat) : (allocs w os).heap[w.heap.size + j]? = os[j]? := by
  rw [allocs_heap, Array.getElem?_append_right (by omega)]; simp
theorem Only.grown {w0 w w' : World} {g : Nat} {row : Option Nat} (h : Only w0 w g) (k : w.grownBy w' row) (hr : ∀ b, row = some b → w0.heap.size ≤ b) : Only w0 w' g :=
  ⟨k.os.trans h.os, k.tape.trans h.tape, k.output.trans h.output, Nat.le_trans h.size k.size, fun i hi hne => (k.block i (Nat.lt_of_lt_of_le hi h.size) (fun e => by have := hr i e.symm; omega)).trans (h.block i hi hne)⟩
theorem Dice.grown {w w' : World} {g : Nat} {row : Option Nat} (h : Dice w g) (k : w.grownBy w' row) (hr : ∀ b, row = some b → g < b) : Dice w' g :=
  h.below (Below.grown (Below.refl _ _) k (by have := h.lt; omega) (fun b hb => hr b hb))
theorem OwI.only {w w' : World} {g B n c : Nat} {A : Option Addr} {xs : List Int} (h : OwI w B A n c xs) (k : Only w w' g) (hg : g < B) : OwI w' B A n c xs :=
  h.heap fun b e => by have h1 := h.bd b 0 none e; exact k.block b h1.2 (fun e2 => by cases e2; omega)
def bdT : Nat → Nat
  | 0 => 1
  | d + 1 => 1 + 2 * bdT d
theorem bdT_le : ∀ {d : Nat}, d ≤ 3 → bdT d ≤ 15
  | 0, _ => by decide
  | 1, _ => by decide
  | 2, _ => by decide
  | 3, _ => by decide
  | d + 4, h => by omega
theorem arI3 {y : Nat} (h : y ≤ 2) : arI [2, 1, 0] (y : Int) = some (2 - y) := by
  match y, h with
  | 0, _ => decide
  | 1, _ => decide
  | 2, _ => decide
def NewTm (w : World) (g d : Nat) (vars : Int) (e : Ending) (w' : World) : Prop := ∃ (A : Option Addr) (n c : Nat) (u : Tm), e = .returned (.slice A n c) ∧ OwI w' w.heap.size A n c u.flat ∧ u.Ok [2, 1, 0] ∧ (∀ x ∈ u.flat, -vars ≤ x) ∧ n ≤ bdT d ∧ Dice w' g ∧ Only w w' g
set_option maxRecDepth 100000 in
set_option maxHeartbeats 8000000 in
theorem c_w9Term_step {g d : Nat} {vars z : Int} {w : World} (hv : 0 ≤ vars) (hv2 : vars ≤ 10) (hd : d ≤ 3) (hz : z = (d : Int) + 1) (h0 : Dice w g)
    (ih : d ≠ 0 → ∀ (z : Int) {w : World}, z = (d : Int) → Dice w g → Calls Try.prog 48 #[.pointer (some ⟨g, 0, none⟩), .int .i64 z, .int .i64 vars] w (NewTm w g (d - 1) vars)) :
    Calls Try.prog 48 #[.pointer (some ⟨g, 0, none⟩), .int .i64 z, .int .i64 vars] w (NewTm w g d vars) := by
  have HD := Lib.hid h0
  have hgl := h0.lt
  have HI := Lib.hid ih
  obtain ⟨i0, hii, hiz, his, hib⟩ := info_parts int64_info
  clear h0 ih
  rcases Int.lt_or_le 0 vars with hv0 | hv0
  go_enter Try.func48, Try.ntmps48
  go_wp2_with fail
  (with_reducible refine (c_below HD.out (by omega) (by omega)).mono ?_)
  rintro e w1 ⟨x, rfl, hx, hD1, hO1⟩
  by_cases hx0 : x = 0
  · subst hx0
    have hs1 := hO1.size
    go_wp2_with fail
    (with_reducible refine (c_below hD1 (by omega) (by omega)).mono ?_)
    rintro e w2 ⟨y, rfl, hy, hD2, hO2⟩
    have hs2 := hO2.size
    have HO := Lib.hid (OwI.fresh (w := w2) [-1 - y] (by simp))
    have hyw : IntKind.i64.wrap (-1 - y) = -1 - y := IntWalk.i64_in _ (by omega)
    go_wp2
    go_ret
    refine ⟨some ⟨w2.heap.size, 0, none⟩, 1, 1, .node (-1 - y) [], rfl, ?_, ?_, ?_, ?_, hD2.ext ((Ext.refl w2).alloc _), (hO1.trans hO2).trans (Only.of_ext ((Ext.refl w2).alloc _) g)⟩
    · rw [flat_node, flatL_nil]; exact HO.out.lower (by omega)
    · rw [Ok_node]; exact ⟨by unfold arI; rw [if_pos (by omega)]; rfl, by simp [OkL]⟩
    · rw [flat_node, flatL_nil]; intro q hq; rw [List.mem_singleton.1 hq]; omega
    · cases d <;> simp [bdT]
  have hxb : (x == 0) = false := by simpa using hx0
  go_wp2_with fail
  rotate_left 1
  go_enter Try.func48, Try.ntmps48
  go_wp2_with fail
  have hD1 := HD.out
  have hO1 := Only.refl w g
  all_goals
    (with_reducible refine (c_below hD1 (by omega) (by omega)).mono ?_)
    rintro e w2 ⟨y, rfl, hy, hD2, hO2⟩
    have hO02 : Only w w2 g := hO1.trans hO2
    have hs2 := hO02.size
    by_cases hd0 : d = 0
    · subst hd0
      have HO := Lib.hid (OwI.fresh (w := w2) [2] (by simp))
      have hz1 : z ≤ 1 := by omega
      go_wp2_with fail
      go_loopw [8, 9] (fun ov kv wr => ov = .slice (some ⟨w2.heap.size, 0, none⟩) 1 1 ∧ kv = .int .i64 2 ∧ wr = w2.alloc (.cells #[.int .i64 2] 2)) (fun _ _ _ => 0)
      case atStart => exact ⟨rfl, rfl, rfl⟩
      case round =>
        obtain ⟨rfl, rfl, rfl⟩ := hrel
        go_wp2
        go_ret
        refine ⟨_, 1, 1, .node 2 [], rfl, ?_, ?_, ?_, ?_, hD2.ext ((Ext.refl w2).alloc _), hO02.trans (Only.of_ext ((Ext.refl w2).alloc _) g)⟩
        · rw [flat_node, flatL_nil]; exact HO.out.lower (by omega)
        · rw [Ok_node]; exact ⟨arI3 (y := 2) (by omega), by simp [OkL]⟩
        · rw [flat_node, flatL_nil]; intro q hq; rw [List.mem_singleton.1 hq]; omega
        · simp [bdT]
    · obtain ⟨d', rfl⟩ : ∃ d', d = d' + 1 := ⟨d - 1, by omega⟩
      obtain ⟨y', rfl⟩ := Int.eq_ofNat_of_zero_le hy.1
      have HO := Lib.hid (OwI.fresh (w := w2) [(y' : Int)] (by simp))
      have hz1 : ¬ z ≤ 1 := by omega
      have hzw : IntKind.i64.wrap (z - 1) = z - 1 := IntWalk.i64_in _ (by omega)
      have hb15 := bdT_le (d := d') (by omega)
      have hD2b := Lib.hid (hD2.ext ((Ext.refl w2).alloc (.cells #[.int .i64 (y' : Int)] 2)))
      have hO2b := Lib.hid (hO02.trans (Only.of_ext ((Ext.refl w2).alloc (.cells #[.int .i64 (y' : Int)] 2)) g))
      go_wp2_with fail
      go_loopw [8, 9] (fun ov kv wr => ∃ k : Nat, kv = .int .i64 k ∧ y' ≤ k ∧ k ≤ 2 ∧ (∃ A n c, ov = .slice A n c ∧ n ≤ 1 + (k - y') * bdT d' ∧ Hid (∃ us, OwI wr w.heap.size A n c ((y' : Int) :: flatL us) ∧ OkL [2, 1, 0] us ∧ us.length = k - y' ∧ ∀ q ∈ flatL us, -vars ≤ q)) ∧ Hid (Dice wr g ∧ Only w wr g)) (fun _ kv _ => 2 - (intOf kv).toNat)
      case atStart => exact ⟨y', rfl, Nat.le_refl _, by omega, ⟨_, _, _, rfl, by omega, Lib.hid ⟨[], by rw [flatL_nil]; exact HO.out.lower (by omega), by simp [OkL], by simp, by rw [flatL_nil]; intro q hq; cases hq⟩⟩, Lib.hid ⟨hD2b.out, hO2b.out⟩⟩
      case round =>
        obtain ⟨k, rfl, hk1, hk2, ⟨A, n, c, rfl, hn, hST⟩, hDD⟩ := hrel
        obtain ⟨us, hO, hok, hul, hge⟩ := hST.out
        have hDr := hDD.out.1
        have hOr := hDD.out.2
        have HOK := Lib.hid hok
        have HGE := Lib.hid hge
        have HUL := Lib.hid hul
        have HO6 := Lib.hid hO
        have hsr := hOr.size
        clear hST hok hge hul hO
        by_cases hlt : k < 2
        · have hki : (k : Int) < 2 := by omega
          go_wp2_with fail
          (with_reducible refine (HI.out (by omega) ((d' : Int) + 1) (by omega) hDr).mono ?_)
          rintro e w3 ⟨A3, n3, c3, u, rfl, hO3, hok3, hge3, hn3, hD3, hOn3⟩
          have HR3 := Lib.hid hO3.ri
          have HO7 := Lib.hid (HO6.out.only hOn3 hgl)
          have hs3 := hOn3.size
          have hO03 := hOr.trans hOn3
          have hn15 : n3 ≤ 15 := by simp at hn3; omega
          have hn31 : n ≤ 31 := by
            have h1 : (k - y') * bdT d' ≤ 2 * 15 := Nat.mul_le_mul (by omega) hb15
            omega
          have hcp := HO7.out.cap
          clear hO3
          go_wp2_with (at_builtin; go_loud (refine wpList_append_ints rfl (.tmp 33) (.tmp 38) 27 rfl i0 Try.underlying27 hii hiz his hib (D := w.heap.size) rfl HO7.out rfl HR3.out (by omega) (by omega) hcp.1 ?_))
          intro A4 c4 w4 hO4 hg4 hat4
          have HO4 := Lib.hid hO4
          have hob := OwI.ob2 HO7.out
          have HD4 := Lib.hid (hD3.grown hg4 (fun b hb => by have := (hob b hb).1; omega))
          have HON4 := Lib.hid (hO03.grown hg4 (fun b hb => (hob b hb).1))
          have HN := Lib.hid (show OwI w4 w.heap.size A4 (n + n3) c4 ((y' : Int) :: flatL (us ++ [u])) ∧ OkL [2, 1, 0] (us ++ [u]) ∧ (us ++ [u]).length = k + 1 - y' ∧ ∀ q ∈ flatL (us ++ [u]), -vars ≤ q from by
            rw [flatL_append, flatL_cons, flatL_nil, List.append_nil]
            refine ⟨by simpa using HO4.out, OkL_iff.2 fun a ha => ?_, by rw [List.length_append, HUL.out]; simp; omega, fun q hq => ?_⟩
            · rcases List.mem_append.1 ha with ha | ha
              · exact OkL_iff.1 HOK.out a ha
              · rw [List.mem_singleton.1 ha]; exact hok3
            · rcases List.mem_append.1 hq with hq | hq
              · exact HGE.out q hq
              · exact hge3 q hq)
          have hnn : n + n3 ≤ 1 + (k + 1 - y') * bdT d' := by
            have h1 : n3 ≤ bdT d' := by simpa using hn3
            rw [show k + 1 - y' = (k - y') + 1 by omega, Nat.add_mul, Nat.one_mul]; omega
          clear hO4 hg4 hat4 hob
          go_wp2
          go_roundw
          case rel => exact ⟨k + 1, by go_num, by omega, by omega, ⟨_, _, _, rfl, hnn, Lib.hid ⟨_, HN.out⟩⟩, Lib.hid ⟨HD4.out, HON4.out⟩⟩
          case measure => simp only [intOf]; omega
        · have hk22 : k = 2 := by omega
          subst hk22
          go_wp2
          go_ret
          refine ⟨_, _, _, .node (y' : Int) us, rfl, ?_, ?_, ?_, ?_, hDr, hOr⟩
          · rw [flat_node]; exact HO6.out
          · rw [Ok_node, HUL.out]; exact ⟨arI3 (by omega), HOK.out⟩
          · rw [flat_node]; intro q hq
            rcases List.mem_cons.1 hq with rfl | hq
            · omega
            · exact HGE.out q hq
          · have h1 : (2 - y') * bdT d' ≤ 2 * bdT d' := Nat.mul_le_mul_right _ (by omega)
            simp only [bdT]; omega
theorem c_w9Term {g : Nat} {vars : Int} (hv : 0 ≤ vars) (hv2 : vars ≤ 10) : ∀ (d : Nat), d ≤ 3 → ∀ (z : Int) {w : World}, z = (d : Int) + 1 → Dice w g → Calls Try.prog 48 #[.pointer (some ⟨g, 0, none⟩), .int .i64 z, .int .i64 vars] w (NewTm w g d vars)
  | 0, hd, z, w, hz, h0 => c_w9Term_step hv hv2 hd hz h0 (fun h => absurd rfl h)
  | d + 1, hd, z, w, hz, h0 => c_w9Term_step hv hv2 hd hz h0 (fun _ z w hz hD => c_w9Term hv hv2 d (by omega) z (by omega) hD)
end Go.Proofs.Ytdlgjhngndpgoaa
namespace Go.Proofs.Ytdlgjhngndpgoaa
set_option linter.unusedVariables false
theorem arI_var {ar : List Int} {x : Int} (h : x < 0) : arI ar x = some 0 := by unfold arI; rw [if_pos h]
inductive At (R : Tm → Tm → Prop) : Nat → Tm → Tm → Prop
  | here {u v : Tm} : R u v → At R 0 u v
  | arg {x : Int} {as1 bs : List Tm} {a b : Tm} {p : Nat} : At R p a b → At R (1 + (flatL as1).length + p) (.node x (as1 ++ a :: bs)) (.node x (as1 ++ b :: bs))
theorem termP_flat {ar : List Int} {u : Tm} (hs : SigP ar) (hu : u.Ok ar) (hl : u.flat.length ≤ 60) (hv : ∀ x ∈ u.flat, -24 ≤ x) : TermP ar u.flat := by
  refine ⟨hs, ⟨flat_pos u, hl⟩, hv, ?_⟩
  have := scan_flat u hu [] 0
  rw [List.append_nil, scan_zero] at this
  rw [this]; simp
end Go.Proofs.Ytdlgjhngndpgoaa
