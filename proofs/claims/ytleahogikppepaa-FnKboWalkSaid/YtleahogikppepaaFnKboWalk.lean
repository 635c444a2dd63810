/- Proved: for every input the law FnKboWalk returns true, does not panic, and its argument reads afterwards as it read before. Conditions: none. -/
import Derived.Test.YtleahogikppepaaHeld
import Derived.Test.YtleahogikppepaaOpenBy
import Derived.Test.YtleahogikppepaaKboTot
import Derived.Test.YtleahogikppepaaKboOr
import Derived.Test.YtleahogikppepaaMKboF
import Derived.Test.YtleahogikppepaaStp
import Derived.Test.YtleahogikppepaaDicSy
-- rd: RdWt RdSyK
namespace Go.Proofs.Ytleahogikppepaa.FnKboWalk
open Go.ChangeShapes Go.WideShapes Go.ChangeAt Go.RowKit
set_option linter.unusedSimpArgs false
set_option linter.unusedVariables false
set_option linter.constructorNameAsVariable false

/-- Weights in a box, off the dice. -/
structure WtBx (w : World) (g q : Nat) (SA SB : Option Addr) (W : Wt) : Prop where
  q0 : w.cell? ⟨q, 0, none⟩ = some (.int .i64 W.var)
  q1 : w.cell? ⟨q, 1, none⟩ = some (.slice SA 3 3)
  q2 : w.cell? ⟨q, 2, none⟩ = some (.slice SB 3 3)
  qn : q ≠ g
  sy : RIg w g SA 3 W.sym
  rk : RIg w g SB 3 W.rank
section
variable {w w' : World} {g q : Nat} {SA SB : Option Addr} {W : Wt}
theorem WtBx.ext (h : WtBx w g q SA SB W) (k : Ext w w') : WtBx w' g q SA SB W := ⟨Ext.keep k h.q0, Ext.keep k h.q1, Ext.keep k h.q2, h.qn, h.sy.ext k, h.rk.ext k⟩
theorem WtBx.only (h : WtBx w g q SA SB W) (k : Only w w' g) : WtBx w' g q SA SB W := ⟨cell_onlyN k h.qn h.q0, cell_onlyN k h.qn h.q1, cell_onlyN k h.qn h.q2, h.qn, h.sy.only k, h.rk.only k⟩
theorem WtBx.rd (h : WtBx w g q SA SB W) : RdWt w (.agg #[.int .i64 W.var, .slice SA 3 3, .slice SB 3 3]) W := RdWt.mk h.sy.1 h.rk.1
end
theorem c_iKboOrB {v0 v1 : Value} {s : Sy} {W : Wt} {b : Bool} {w : World} (hb : kboOrients s W = b) (h0 : RdSyC w v0 s) (h1 : RdWt w v1 W) :
    Calls Try.prog 33 #[v0, v1] w fun e w' => e = .returned (.bool b) ∧ Ext w w' := by subst hb; exact c_iKboOrients h0 h1
theorem c_sKboOrB {v0 v1 : Value} {s : Sy} {W : Wt} {b : Bool} {w : World} (hb : kboOrients s W = b) (h0 : RdSyC w v0 s) (h1 : RdWt w v1 W) :
    Calls Try.prog 34 #[v0, v1] w fun e w' => e = .returned (.bool b) ∧ Ext w w' := by subst hb; exact c_sKboOrients h0 h1
theorem kbo_pos {ar : List Int} {W : Wt} {s t : Tm} (h : kbo ar W s t ≠ 0) : 0 < kbo ar W s t := by
  cases s; cases t
  rw [kbo_node] at h ⊢
  repeat' split
  all_goals first | omega | (rename_i h1; simp_all)
/-- Along a step. -/
theorem step_less {rs : List Ru} {W : Wt} {u : Tm} {q : Stp} (hs : SysP ⟨ar3, rs⟩) (hW : WtP ar3 W) (ou : u.Ok ar3) (pu : TermP ar3 u.flat) (hb : kboOrients ⟨ar3, rs⟩ W = true) (hq : StepP ⟨ar3, rs⟩ u.flat q) :
    kboLess ar3 W q.to u.flat = true ∧ ∃ X Y : Int, weightOf ar3 W q.to = X ∧ weightOf ar3 W u.flat = Y ∧ X ≤ Y := by
  obtain ⟨k, p, r, T', e1, e2, hr, hp, hA, oT, fT, pT⟩ := stepP_tree hs pu hq
  have oT' : T'.Ok ar3 := oT
  have pT' : TermP ar3 q.to := pT
  have htm : tmOf ar3 u.flat = u := tmOf_flat ou
  have hA' : At (RuT ⟨ar3, rs⟩ k r) p u T' := by
    have : tmOf (Sy.ar ⟨ar3, rs⟩) u.flat = u := htm
    rw [this] at hA; exact hA
  have hall : KbAll ⟨ar3, rs⟩ W := by
    unfold kboOrients at hb
    rw [Bool.and_eq_true] at hb
    simpa only [kbAll, decide_eq_true_eq] using hb.2
  have hrule := kbo_pos (hall k r hr)
  obtain ⟨hL, hR, _⟩ := hs.2.2 k r hr
  have oL := (tmOf_ok hL).1
  have oR := (tmOf_ok hR).1
  have h := kbo_at (ar := ar3) (W := W) (R := RuT ⟨ar3, rs⟩ k r) (fun a b hab => by
    obtain ⟨g, hg, _, e3, e4⟩ := hab
    subst e3; subst e4
    exact ⟨sub_ok hg _ oR, kbo_fill hW hg _ _ oR oL hrule⟩) hA' ou
  rw [← fT] at pT' ⊢
  refine ⟨by rw [kboLess3 hW pT' pu oT' ou]; simpa using h, _, _, weight3 hW pT', weight3 hW pu, (kbo_wt h).2⟩
set_option maxRecDepth 100000 in
set_option maxHeartbeats 16000000 in
theorem walk {v0 : Value} {x0 : Nat} {w : World} (h0 : RawBy w v0 x0) :
    Calls Try.prog 6 #[v0] w fun e w' => e = .returned (.bool true) ∧ Ext w w' := by
  have H0 := Lib.hid h0
  obtain ⟨bb, hbb⟩ : ∃ bb, decide (4096 < x0) = bb := ⟨_, rfl⟩
  have HBB := Lib.hid hbb
  clear h0 hbb
  go_enter Try.func6, Try.ntmps6
  go_wp2_with fail
  (with_reducible refine (c_big HBB.out H0.out).mono ?_)
  rintro e w1 ⟨rfl, hE1⟩
  cases bb with
  | true =>
    go_wp2
    go_ret
    exact ⟨rfl, hE1⟩
  | false =>
    have hx : x0 ≤ 4096 := by have := HBB.out; simpa using this
    have H1 := Lib.hid (H0.out.ext hE1)
    go_wp2_with fail
    (with_reducible refine (c_roll H1.out hx).mono ?_)
    rintro e w2 ⟨g, rfl, hD2, hg2, hE2⟩
    have hE02 : Ext w w2 := Ext.trans hE1 hE2
    have hgw : w.heap.size ≤ g := by have := hE1.size; omega
    have hgl := hD2.lt
    go_wp2_with fail
    (with_reducible refine (c_w9System hD2).mono ?_)
    rintro e w3 ⟨AS, cS, B, m, d, rs, rfl, hS3, hR3, hl3, hG3, hD3, hO3⟩
    have hs3 := hO3.size
    have HY4 := Lib.hid (SysAt.mk' (c := cS) (d := d) (v := .bool true) hS3 hR3 hs3)
    have HSY := Lib.hid (show SysP ⟨ar3, rs⟩ from good_sys hl3 hG3)
    have hE03 : Ext w w3 := hO3.ext hE02 hgw
    obtain ⟨w4, hw4⟩ : ∃ w4, w4 = w3.alloc (.cells #[.slice AS 3 cS, .slice B m d] 57) := ⟨_, rfl⟩
    rw [← hw4] at HY4
    have hE34 : Ext w3 w4 := by rw [hw4]; (repeat' (first | (with_reducible exact Ext.refl _) | (with_reducible assumption) | (with_reducible refine Ext.alloc ?_ _) | (with_reducible refine Ext.set ?_ ?_ _) | (with_reducible refine Ext.drewN ?_ _) | (with_reducible refine Ext.drew ?_) | (with_reducible refine Ext.trans ?_ (by with_reducible assumption)) | go_size))
    have HD4 := Lib.hid (hD3.ext hE34)
    have hE04 := Ext.trans hE03 hE34
    clear hS3 hR3 hD3 hO3 hG3
    go_wp2_with fail
    rw [← hw4]
    clear hw4
    obtain ⟨p, hp⟩ : ∃ p, p = w3.heap.size := ⟨_, rfl⟩
    rw [← hp] at HY4 ⊢
    have hpg : p ≠ g := by omega
    clear hp
    (with_reducible refine (c_w9Weights HD4.out).mono ?_)
    rintro e w5 ⟨SA, SB, W, rfl, hSA, hSB, hW, hD5, hO5⟩
    have HW := Lib.hid hW
    have hs5 := hO5.size
    have HY5 := Lib.hid (HY4.out.only hO5 hgl)
    have hgl5 := hD5.lt
    have hE05 : Ext w w5 := hO5.ext hE04 hgw
    obtain ⟨w6, hw6⟩ : ∃ w6, w6 = w5.alloc (.cells #[.int .i64 W.var, .slice SA 3 3, .slice SB 3 3] 48) := ⟨_, rfl⟩
    have hE56 : Ext w5 w6 := by rw [hw6]; (repeat' (first | (with_reducible exact Ext.refl _) | (with_reducible assumption) | (with_reducible refine Ext.alloc ?_ _) | (with_reducible refine Ext.set ?_ ?_ _) | (with_reducible refine Ext.drewN ?_ _) | (with_reducible refine Ext.drew ?_) | (with_reducible refine Ext.trans ?_ (by with_reducible assumption)) | go_size))
    have HW6 := Lib.hid (show WtBx w6 g w5.heap.size SA SB W from ⟨by rw [hw6]; simp [go_sem], by rw [hw6]; simp [go_sem], by rw [hw6]; simp [go_sem], by omega, hSA.ext hE56, hSB.ext hE56⟩)
    have HY6 := Lib.hid (HY5.out.ext hE56)
    have HD6 := Lib.hid (hD5.ext hE56)
    have hE06 := Ext.trans hE05 hE56
    obtain ⟨b1, hb1⟩ : ∃ b1, kboOrients ⟨ar3, rs⟩ W = b1 := ⟨_, rfl⟩
    have HB1 := Lib.hid hb1
    have t0 := HY5.out.c0
    have t1 := HY5.out.c1
    have hpl5 : p < w5.heap.size := World.block_lt_of_cell? w5 _ t0
    have hbe : (b1 != b1) = false := by simp
    clear hSA hSB hW hD5 hO5 hb1 HY4 HD4
    go_wp2_with fail
    rw [← hw6]
    clear hw6
    obtain ⟨q, hq⟩ : ∃ q, q = w5.heap.size := ⟨_, rfl⟩
    rw [← hq] at HW6 ⊢
    clear hq t0 t1
    (with_reducible refine (c_iKboOrB HB1.out HY6.out.rd HW6.out.rd).mono ?_)
    rintro e w7 ⟨rfl, hE7⟩
    have HY7 := Lib.hid (HY6.out.ext hE7)
    have HW7 := Lib.hid (HW6.out.ext hE7)
    have HD7 := Lib.hid (HD6.out.ext hE7)
    have t0 := HY7.out.c0
    have t1 := HY7.out.c1
    have t2 := HW7.out.q0
    have t3 := HW7.out.q1
    have t4 := HW7.out.q2
    clear HY6 HW6 HD6 HY5
    go_wp2_with fail
    (with_reducible refine (c_sKboOrB HB1.out HY7.out.rd HW7.out.rd).mono ?_)
    rintro e w8 ⟨rfl, hE8⟩
    have HY8 := Lib.hid (HY7.out.ext hE8)
    have HW8 := Lib.hid (HW7.out.ext hE8)
    have HD8 := Lib.hid (HD7.out.ext hE8)
    have hE08 : Ext w w8 := Ext.trans hE06 (Ext.trans hE7 hE8)
    have hg8 := HD8.out.lt
    clear t0 t1 t2 t3 t4 HY7 HW7 HD7
    go_wp2_with fail
    (with_reducible refine (c_w9Term (g := g) (vars := 1) (by omega) (by omega) 3 (by omega) 4 (by omega) HD8.out).mono ?_)
    rintro e w9 ⟨TA, tn, tc, u, rfl, hO9, oku, gu, hn9, hD9, hOn9⟩
    have hcapT := hO9.cap
    have HT9 := Lib.hid hO9.ri
    have HOU := Lib.hid (show u.Ok ar3 from oku)
    have HPU := Lib.hid (show TermP ar3 u.flat from tm3 (d := 3) (vars := 1) (by omega) (by omega) oku (by rw [hO9.len]; exact hn9) gu)
    have HY9 := Lib.hid (HY8.out.only hOn9 hgl)
    have HW9 := Lib.hid (HW8.out.only hOn9)
    have hE09 : Ext w w9 := hOn9.ext hE08 hgw
    have t0 := HY9.out.c0
    have t1 := HY9.out.c1
    clear hO9 oku gu hn9 hD9 hOn9 HY8 HW8 HD8
    go_wp2_with fail
    (with_reducible refine (c_StepsFrom HY9.out.rd HSY.out HT9.out hcapT HPU.out).mono ?_)
    rintro e w10 ⟨LA, n, lc, sts, rfl, hR10, hn10, hall10, hE10⟩
    have HR10 := Lib.hid hR10
    have HAL := Lib.hid hall10
    have HY10 := Lib.hid (HY9.out.ext hE10)
    have HW10 := Lib.hid (HW9.out.ext hE10)
    have HT10 := Lib.hid (HT9.out.ext hE10)
    have hE010 : Ext w w10 := Ext.trans hE09 hE10
    clear hR10 hall10 t0 t1 HY9 HW9 HT9
    go_wp2_with fail
    go_loopw [9] (fun iv wr => ∃ i : Nat, iv = .int .i64 i ∧ i ≤ n ∧ Ext w10 wr) (fun iv _ => n - (intOf iv).toNat)
    case atStart => exact ⟨0, rfl, Nat.zero_le _, Ext.refl _⟩
    case round =>
      obtain ⟨i, rfl, hi, hE⟩ := hrel
      by_cases hlt : i < n
      · obtain ⟨b, o, st, A', m', c', rfl, hst, hlo, hc0, hc1, hc2, hcap', hri', _⟩ := RSt.at_ (HR10.out.ext hE) hlt
        have HRI := Lib.hid hri'
        have hki : (i : Int) < (n : Int) := by omega
        have hk0 : (0 : Int) ≤ (i : Int) := by omega
        have HYr := Lib.hid (HY10.out.ext hE)
        have HWr := Lib.hid (HW10.out.ext hE)
        have HTr := Lib.hid (HT10.out.ext hE)
        have hSP := HAL.out st (List.mem_of_getElem? hst)
        have HSP := Lib.hid hSP
        have hbl := World.block_lt_of_cell? wr _ hc2
        clear hri' hSP hst hc0 hc1
        cases b1 with
        | false =>
          go_wp2_with fail
          refine wp_region_held_drew (S := (fun w' => Ext wr w')) (by kernel_rfl) ?_ (fun hH => ?_)
          · exact (Ext.refl wr).drew
          refine wpAnyH_take_dst (i := 0) (v := .bool false) (d := some 37) rfl rfl (by kernel_rfl) (by kernel_rfl) (by kernel_rfl) (fun _ _ _ h => h) (Or.inl ⟨by rfl, ?_⟩) hH ?_
          · (intro w hSw; (try dsimp only at hSw); go_split_ands; go_simp; try with_reducible rfl)
          try simp only [Act.put, List.setIfInBounds_toArray, List.set_cons_zero, List.set_cons_succ]
          refine wpAnyH_take_dst (i := 1) (v := .bool false) (d := some 38) rfl rfl (by kernel_rfl) (by kernel_rfl) (by kernel_rfl) (fun _ _ _ h => h) (Or.inl ⟨by rfl, ?_⟩) hH ?_
          · (intro w hSw; (try dsimp only at hSw); go_split_ands; go_simp; try with_reducible rfl)
          try simp only [Act.put, List.setIfInBounds_toArray, List.set_cons_zero, List.set_cons_succ]
          refine wpAnyH_take_dst (i := 2) (v := undef) (d := some 39) rfl rfl (by kernel_rfl) (by kernel_rfl) (by kernel_rfl) (fun _ _ _ h => h) (Or.inr ⟨by rfl, rfl⟩) hH ?_
          try simp only [Act.put, List.setIfInBounds_toArray, List.set_cons_zero, List.set_cons_succ]
          refine wpAnyH_take_dst (i := 3) (v := undef) (d := some 40) rfl rfl (by kernel_rfl) (by kernel_rfl) (by kernel_rfl) (fun _ _ _ h => h) (Or.inr ⟨by rfl, rfl⟩) hH ?_
          try simp only [Act.put, List.setIfInBounds_toArray, List.set_cons_zero, List.set_cons_succ]
          refine wpAnyH_take_dst (i := 4) (v := undef) (d := some 41) rfl rfl (by kernel_rfl) (by kernel_rfl) (by kernel_rfl) (fun _ _ _ h => h) (Or.inr ⟨by rfl, rfl⟩) hH ?_
          try simp only [Act.put, List.setIfInBounds_toArray, List.set_cons_zero, List.set_cons_succ]
          refine wpAnyH_take_dst (i := 5) (v := undef) (d := some 42) rfl rfl (by kernel_rfl) (by kernel_rfl) (by kernel_rfl) (fun _ _ _ h => h) (Or.inr ⟨by rfl, rfl⟩) hH ?_
          try simp only [Act.put, List.setIfInBounds_toArray, List.set_cons_zero, List.set_cons_succ]
          refine wpAnyH_take_dst (i := 6) (v := undef) (d := some 43) rfl rfl (by kernel_rfl) (by kernel_rfl) (by kernel_rfl) (fun _ _ _ h => h) (Or.inr ⟨by rfl, rfl⟩) hH ?_
          try simp only [Act.put, List.setIfInBounds_toArray, List.set_cons_zero, List.set_cons_succ]
          refine wpAnyH_take_dst (i := 7) (v := undef) (d := some 44) rfl rfl (by kernel_rfl) (by kernel_rfl) (by kernel_rfl) (fun _ _ _ h => h) (Or.inr ⟨by rfl, rfl⟩) hH ?_
          try simp only [Act.put, List.setIfInBounds_toArray, List.set_cons_zero, List.set_cons_succ]
          refine wpAnyH_take_dst (i := 8) (v := undef) (d := some 45) rfl rfl (by kernel_rfl) (by kernel_rfl) (by kernel_rfl) (fun _ _ _ h => h) (Or.inr ⟨by rfl, rfl⟩) hH ?_
          try simp only [Act.put, List.setIfInBounds_toArray, List.set_cons_zero, List.set_cons_succ]
          refine wpAnyH_take_dst (i := 9) (v := undef) (d := some 46) rfl rfl (by kernel_rfl) (by kernel_rfl) (by kernel_rfl) (fun _ _ _ h => h) (Or.inr ⟨by rfl, rfl⟩) hH ?_
          try simp only [Act.put, List.setIfInBounds_toArray, List.set_cons_zero, List.set_cons_succ]
          refine wpAnyH_take_dst (i := 10) (v := undef) (d := some 47) rfl rfl (by kernel_rfl) (by kernel_rfl) (by kernel_rfl) (fun _ _ _ h => h) (Or.inr ⟨by rfl, rfl⟩) hH ?_
          try simp only [Act.put, List.setIfInBounds_toArray, List.set_cons_zero, List.set_cons_succ]
          refine wpAnyH_take_dst (i := 11) (v := undef) (d := some 48) rfl rfl (by kernel_rfl) (by kernel_rfl) (by kernel_rfl) (fun _ _ _ h => h) (Or.inr ⟨by rfl, rfl⟩) hH ?_
          try simp only [Act.put, List.setIfInBounds_toArray, List.set_cons_zero, List.set_cons_succ]
          refine wpAnyH_take_dst (i := 12) (v := undef) (d := some 49) rfl rfl (by kernel_rfl) (by kernel_rfl) (by kernel_rfl) (fun _ _ _ h => h) (Or.inr ⟨by rfl, rfl⟩) hH ?_
          try simp only [Act.put, List.setIfInBounds_toArray, List.set_cons_zero, List.set_cons_succ]
          refine wpAnyH_take_dst (i := 13) (v := undef) (d := some 50) rfl rfl (by kernel_rfl) (by kernel_rfl) (by kernel_rfl) (fun _ _ _ h => h) (Or.inr ⟨by rfl, rfl⟩) hH ?_
          try simp only [Act.put, List.setIfInBounds_toArray, List.set_cons_zero, List.set_cons_succ]
          refine wpAnyH_take_dst (i := 14) (v := undef) (d := some 51) rfl rfl (by kernel_rfl) (by kernel_rfl) (by kernel_rfl) (fun _ _ _ h => h) (Or.inr ⟨by rfl, rfl⟩) hH ?_
          try simp only [Act.put, List.setIfInBounds_toArray, List.set_cons_zero, List.set_cons_succ]
          refine wpAnyH_take_dst (i := 15) (v := undef) (d := some 52) rfl rfl (by kernel_rfl) (by kernel_rfl) (by kernel_rfl) (fun _ _ _ h => h) (Or.inr ⟨by rfl, rfl⟩) hH ?_
          try simp only [Act.put, List.setIfInBounds_toArray, List.set_cons_zero, List.set_cons_succ]
          refine wpAnyH_take_dst (i := 16) (v := undef) (d := some 53) rfl rfl (by kernel_rfl) (by kernel_rfl) (by kernel_rfl) (fun _ _ _ h => h) (Or.inr ⟨by rfl, rfl⟩) hH ?_
          try simp only [Act.put, List.setIfInBounds_toArray, List.set_cons_zero, List.set_cons_succ]
          refine wpAnyH_take_dst (i := 17) (v := undef) (d := some 54) rfl rfl (by kernel_rfl) (by kernel_rfl) (by kernel_rfl) (fun _ _ _ h => h) (Or.inr ⟨by rfl, rfl⟩) hH ?_
          try simp only [Act.put, List.setIfInBounds_toArray, List.set_cons_zero, List.set_cons_succ]
          refine wpAnyH_take_dst (i := 18) (v := undef) (d := some 55) rfl rfl (by kernel_rfl) (by kernel_rfl) (by kernel_rfl) (fun _ _ _ h => h) (Or.inr ⟨by rfl, rfl⟩) hH ?_
          try simp only [Act.put, List.setIfInBounds_toArray, List.set_cons_zero, List.set_cons_succ]
          refine wpAnyH_take_dst (i := 19) (v := undef) (d := some 56) rfl rfl (by kernel_rfl) (by kernel_rfl) (by kernel_rfl) (fun _ _ _ h => h) (Or.inr ⟨by rfl, rfl⟩) hH ?_
          try simp only [Act.put, List.setIfInBounds_toArray, List.set_cons_zero, List.set_cons_succ]
          refine wpAnyH_take_dst (i := 20) (v := undef) (d := some 57) rfl rfl (by kernel_rfl) (by kernel_rfl) (by kernel_rfl) (fun _ _ _ h => h) (Or.inr ⟨by rfl, rfl⟩) hH ?_
          try simp only [Act.put, List.setIfInBounds_toArray, List.set_cons_zero, List.set_cons_succ]
          refine wpAnyH_take_dst (i := 21) (v := undef) (d := some 58) rfl rfl (by kernel_rfl) (by kernel_rfl) (by kernel_rfl) (fun _ _ _ h => h) (Or.inr ⟨by rfl, rfl⟩) hH ?_
          try simp only [Act.put, List.setIfInBounds_toArray, List.set_cons_zero, List.set_cons_succ]
          refine wpAnyH_take_dst (i := 22) (v := undef) (d := some 59) rfl rfl (by kernel_rfl) (by kernel_rfl) (by kernel_rfl) (fun _ _ _ h => h) (Or.inr ⟨by rfl, rfl⟩) hH ?_
          try simp only [Act.put, List.setIfInBounds_toArray, List.set_cons_zero, List.set_cons_succ]
          refine wpAnyH_take_dst (i := 23) (v := undef) (d := some 60) rfl rfl (by kernel_rfl) (by kernel_rfl) (by kernel_rfl) (fun _ _ _ h => h) (Or.inr ⟨by rfl, rfl⟩) hH ?_
          try simp only [Act.put, List.setIfInBounds_toArray, List.set_cons_zero, List.set_cons_succ]
          refine wpAnyH_take_dst (i := 24) (v := undef) (d := some 61) rfl rfl (by kernel_rfl) (by kernel_rfl) (by kernel_rfl) (fun _ _ _ h => h) (Or.inr ⟨by rfl, rfl⟩) hH ?_
          try simp only [Act.put, List.setIfInBounds_toArray, List.set_cons_zero, List.set_cons_succ]
          refine wpAnyH_take_dst (i := 25) (v := undef) (d := some 62) rfl rfl (by kernel_rfl) (by kernel_rfl) (by kernel_rfl) (fun _ _ _ h => h) (Or.inr ⟨by rfl, rfl⟩) hH ?_
          try simp only [Act.put, List.setIfInBounds_toArray, List.set_cons_zero, List.set_cons_succ]
          refine wpAnyH_take_dst (i := 26) (v := undef) (d := some 63) rfl rfl (by kernel_rfl) (by kernel_rfl) (by kernel_rfl) (fun _ _ _ h => h) (Or.inr ⟨by rfl, rfl⟩) hH ?_
          try simp only [Act.put, List.setIfInBounds_toArray, List.set_cons_zero, List.set_cons_succ]
          refine wpAnyH_take_dst (i := 27) (v := undef) (d := some 64) rfl rfl (by kernel_rfl) (by kernel_rfl) (by kernel_rfl) (fun _ _ _ h => h) (Or.inr ⟨by rfl, rfl⟩) hH ?_
          try simp only [Act.put, List.setIfInBounds_toArray, List.set_cons_zero, List.set_cons_succ]
          refine wpAnyH_take_dst (i := 28) (v := undef) (d := some 65) rfl rfl (by kernel_rfl) (by kernel_rfl) (by kernel_rfl) (fun _ _ _ h => h) (Or.inr ⟨by rfl, rfl⟩) hH ?_
          try simp only [Act.put, List.setIfInBounds_toArray, List.set_cons_zero, List.set_cons_succ]
          refine wpAnyH_take_dst (i := 29) (v := undef) (d := some 66) rfl rfl (by kernel_rfl) (by kernel_rfl) (by kernel_rfl) (fun _ _ _ h => h) (Or.inr ⟨by rfl, rfl⟩) hH ?_
          try simp only [Act.put, List.setIfInBounds_toArray, List.set_cons_zero, List.set_cons_succ]
          refine wpAnyH_take_dst (i := 30) (v := .bool false) (d := some 67) rfl rfl (by kernel_rfl) (by kernel_rfl) (by kernel_rfl) (fun _ _ _ h => h) (Or.inl ⟨by rfl, ?_⟩) hH ?_
          · (intro w hSw; (try dsimp only at hSw); go_split_ands; go_simp; try with_reducible rfl)
          try simp only [Act.put, List.setIfInBounds_toArray, List.set_cons_zero, List.set_cons_succ]
          refine wpAnyH_done (by kernel_rfl) ?_ _
          go_wp2_with fail
          go_roundw
          case rel => exact ⟨i + 1, by go_num, by omega, Ext.trans hE hH⟩
          case measure => simp only [intOf]; omega
        | true =>
          obtain ⟨hless, X, Y, hX, hY, hXY⟩ := step_less HSY.out HW.out HOU.out HPU.out HB1.out HSP.out
          have HLE := Lib.hid hless
          have HX := Lib.hid hX
          have HYY := Lib.hid hY
          have hXYd : decide (X > Y) = false := by simp; omega
          have hXYn : ¬ X > Y := by omega
          clear hless hX hY
          go_wp2_with fail
          refine wp_region_held_drew (S := (fun w' => w'.cell? ⟨p, 0, none⟩ = some (.slice AS 3 cS) ∧ w'.cell? ⟨q, 0, none⟩ = some (.int .i64 W.var) ∧ w'.cell? ⟨q, 1, none⟩ = some (.slice SA 3 3) ∧ w'.cell? ⟨q, 2, none⟩ = some (.slice SB 3 3) ∧ w'.cell? ⟨b, o + i * 3 + 2, none⟩ = some (.slice A' m' c') ∧ Ext wr w')) (by kernel_rfl) ?_ (fun hH => ?_)
          · exact ⟨HYr.out.c0, HWr.out.q0, HWr.out.q1, HWr.out.q2, hc2, (Ext.refl wr).drew⟩
          refine wpAnyH_take_dst (i := 0) (v := .bool true) (d := some 37) rfl rfl (by kernel_rfl) (by kernel_rfl) (by kernel_rfl) (fun _ _ _ h => h) (Or.inl ⟨by rfl, ?_⟩) hH ?_
          · (intro w hSw; (try dsimp only at hSw); go_split_ands; go_simp; try with_reducible rfl)
          try simp only [Act.put, List.setIfInBounds_toArray, List.set_cons_zero, List.set_cons_succ]
          refine wpAnyH_take_dst (i := 1) (v := .bool true) (d := some 38) rfl rfl (by kernel_rfl) (by kernel_rfl) (by kernel_rfl) (fun _ _ _ h => h) (Or.inl ⟨by rfl, ?_⟩) hH ?_
          · (intro w hSw; (try dsimp only at hSw); go_split_ands; go_simp; try with_reducible rfl)
          try simp only [Act.put, List.setIfInBounds_toArray, List.set_cons_zero, List.set_cons_succ]
          refine wpAnyH_take_dst (i := 2) (v := .pointer (some ⟨p, 0, none⟩)) (d := some 39) rfl rfl (by kernel_rfl) (by kernel_rfl) (by kernel_rfl) (fun _ _ _ h => h) (Or.inl ⟨by rfl, ?_⟩) hH ?_
          · (intro w hSw; (try dsimp only at hSw); go_split_ands; go_simp; try with_reducible rfl)
          try simp only [Act.put, List.setIfInBounds_toArray, List.set_cons_zero, List.set_cons_succ]
          refine wpAnyH_take_dst (i := 3) (v := .agg #[.slice AS 3 cS]) (d := some 40) rfl rfl (by kernel_rfl) (by kernel_rfl) (by kernel_rfl) (fun _ _ _ h => h) (Or.inl ⟨by rfl, ?_⟩) hH ?_
          · (intro w hSw; (try dsimp only at hSw); go_split_ands; go_simp; try with_reducible rfl)
          try simp only [Act.put, List.setIfInBounds_toArray, List.set_cons_zero, List.set_cons_succ]
          refine wpAnyH_take_dst (i := 4) (v := .agg #[.int .i64 W.var, .slice SA 3 3, .slice SB 3 3]) (d := some 41) rfl rfl (by kernel_rfl) (by kernel_rfl) (by kernel_rfl) (fun _ _ _ h => h) (Or.inl ⟨by rfl, ?_⟩) hH ?_
          · (intro w hSw; (try dsimp only at hSw); go_split_ands; go_simp; try with_reducible rfl)
          try simp only [Act.put, List.setIfInBounds_toArray, List.set_cons_zero, List.set_cons_succ]
          refine wpAnyH_take_dst (i := 5) (v := .slice (some ⟨b, o, none⟩) n lc) (d := some 42) rfl rfl (by kernel_rfl) (by kernel_rfl) (by kernel_rfl) (fun _ _ _ h => h) (Or.inl ⟨by rfl, ?_⟩) hH ?_
          · (intro w hSw; (try dsimp only at hSw); go_split_ands; go_simp; try with_reducible rfl)
          try simp only [Act.put, List.setIfInBounds_toArray, List.set_cons_zero, List.set_cons_succ]
          refine wpAnyH_take_dst (i := 6) (v := .int .i64 (i : Int)) (d := some 43) rfl rfl (by kernel_rfl) (by kernel_rfl) (by kernel_rfl) (fun _ _ _ h => h) (Or.inl ⟨by rfl, ?_⟩) hH ?_
          · (intro w hSw; (try dsimp only at hSw); go_split_ands; go_simp; try with_reducible rfl)
          try simp only [Act.put, List.setIfInBounds_toArray, List.set_cons_zero, List.set_cons_succ]
          refine wpAnyH_take_dst (i := 7) (v := .pointer (some ⟨b, o + i * 3, none⟩)) (d := some 44) rfl rfl (by kernel_rfl) (by kernel_rfl) (by kernel_rfl) (fun _ _ _ h => h) (Or.inl ⟨by rfl, ?_⟩) hH ?_
          · (intro w hSw; (try dsimp only at hSw); go_split_ands; go_simp; try with_reducible rfl)
          try simp only [Act.put, List.setIfInBounds_toArray, List.set_cons_zero, List.set_cons_succ]
          refine wpAnyH_take_dst (i := 8) (v := .pointer (some ⟨b, o + i * 3 + 2, none⟩)) (d := some 45) rfl rfl (by kernel_rfl) (by kernel_rfl) (by kernel_rfl) (fun _ _ _ h => h) (Or.inl ⟨by rfl, ?_⟩) hH ?_
          · (intro w hSw; (try dsimp only at hSw); go_split_ands; go_simp; try with_reducible rfl)
          try simp only [Act.put, List.setIfInBounds_toArray, List.set_cons_zero, List.set_cons_succ]
          refine wpAnyH_take_dst (i := 9) (v := .slice A' m' c') (d := some 46) rfl rfl (by kernel_rfl) (by kernel_rfl) (by kernel_rfl) (fun _ _ _ h => h) (Or.inl ⟨by rfl, ?_⟩) hH ?_
          · (intro w hSw; (try dsimp only at hSw); go_split_ands; go_simp; try with_reducible rfl)
          try simp only [Act.put, List.setIfInBounds_toArray, List.set_cons_zero, List.set_cons_succ]
          refine wpAnyH_take_dst (i := 10) (v := .slice TA tn tc) (d := some 47) rfl rfl (by kernel_rfl) (by kernel_rfl) (by kernel_rfl) (fun _ _ _ h => h) (Or.inl ⟨by rfl, ?_⟩) hH ?_
          · (intro w hSw; (try dsimp only at hSw); go_split_ands; go_simp; try with_reducible rfl)
          try simp only [Act.put, List.setIfInBounds_toArray, List.set_cons_zero, List.set_cons_succ]
          refine wpAnyH_ready (rs := [11]) (by kernel_rfl) (by simp) ?_
          refine AllReadyH.cons rfl (fun K hK => ?_) AllReadyH.nil
          rw [if_pos (by rfl)]
          go_wp2_with (go_at_call 21; (with_reducible refine ((c_kboLessB HLE.out (HYr.out.ext hH.2.2.2.2.2).sig (HWr.out.ext hH.2.2.2.2.2).rd (RdIc.mk hcap' (RI.ext HRI.out hH.2.2.2.2.2)) (RdIc.mk hcapT (RI.ext HTr.out hH.2.2.2.2.2)))).mono ?_); rintro e w9 ⟨rfl, hE9⟩)
          refine hK.out _ _ ⟨Ext.keep hE9 hH.1, Ext.keep hE9 hH.2.1, Ext.keep hE9 hH.2.2.1, Ext.keep hE9 hH.2.2.2.1, Ext.keep hE9 hH.2.2.2.2.1, Ext.trans hH.2.2.2.2.2 hE9⟩ (fun hH9 => ?_)
          clear hK hH; have hH := hH9; clear hH9
          try simp only [Act.put, List.setIfInBounds_toArray, List.set_cons_zero, List.set_cons_succ]
          refine wpAnyH_take_dst (i := 12) (v := .bool false) (d := some 49) rfl rfl (by kernel_rfl) (by kernel_rfl) (by kernel_rfl) (fun _ _ _ h => h) (Or.inl ⟨by rfl, ?_⟩) hH ?_
          · (intro w hSw; (try dsimp only at hSw); go_split_ands; go_simp; try with_reducible rfl)
          try simp only [Act.put, List.setIfInBounds_toArray, List.set_cons_zero, List.set_cons_succ]
          refine wpAnyH_take_dst (i := 13) (v := .bool false) (d := some 50) rfl rfl (by kernel_rfl) (by kernel_rfl) (by kernel_rfl) (fun _ _ _ h => h) (Or.inl ⟨by rfl, ?_⟩) hH ?_
          · (intro w hSw; (try dsimp only at hSw); go_split_ands; go_simp; try with_reducible rfl)
          try simp only [Act.put, List.setIfInBounds_toArray, List.set_cons_zero, List.set_cons_succ]
          refine wpAnyH_take_dst (i := 14) (v := .pointer (some ⟨p, 0, none⟩)) (d := some 51) rfl rfl (by kernel_rfl) (by kernel_rfl) (by kernel_rfl) (fun _ _ _ h => h) (Or.inl ⟨by rfl, ?_⟩) hH ?_
          · (intro w hSw; (try dsimp only at hSw); go_split_ands; go_simp; try with_reducible rfl)
          try simp only [Act.put, List.setIfInBounds_toArray, List.set_cons_zero, List.set_cons_succ]
          refine wpAnyH_take_dst (i := 15) (v := .agg #[.slice AS 3 cS]) (d := some 52) rfl rfl (by kernel_rfl) (by kernel_rfl) (by kernel_rfl) (fun _ _ _ h => h) (Or.inl ⟨by rfl, ?_⟩) hH ?_
          · (intro w hSw; (try dsimp only at hSw); go_split_ands; go_simp; try with_reducible rfl)
          try simp only [Act.put, List.setIfInBounds_toArray, List.set_cons_zero, List.set_cons_succ]
          refine wpAnyH_take_dst (i := 16) (v := .agg #[.int .i64 W.var, .slice SA 3 3, .slice SB 3 3]) (d := some 53) rfl rfl (by kernel_rfl) (by kernel_rfl) (by kernel_rfl) (fun _ _ _ h => h) (Or.inl ⟨by rfl, ?_⟩) hH ?_
          · (intro w hSw; (try dsimp only at hSw); go_split_ands; go_simp; try with_reducible rfl)
          try simp only [Act.put, List.setIfInBounds_toArray, List.set_cons_zero, List.set_cons_succ]
          refine wpAnyH_take_dst (i := 17) (v := .slice (some ⟨b, o, none⟩) n lc) (d := some 54) rfl rfl (by kernel_rfl) (by kernel_rfl) (by kernel_rfl) (fun _ _ _ h => h) (Or.inl ⟨by rfl, ?_⟩) hH ?_
          · (intro w hSw; (try dsimp only at hSw); go_split_ands; go_simp; try with_reducible rfl)
          try simp only [Act.put, List.setIfInBounds_toArray, List.set_cons_zero, List.set_cons_succ]
          refine wpAnyH_take_dst (i := 18) (v := .int .i64 (i : Int)) (d := some 55) rfl rfl (by kernel_rfl) (by kernel_rfl) (by kernel_rfl) (fun _ _ _ h => h) (Or.inl ⟨by rfl, ?_⟩) hH ?_
          · (intro w hSw; (try dsimp only at hSw); go_split_ands; go_simp; try with_reducible rfl)
          try simp only [Act.put, List.setIfInBounds_toArray, List.set_cons_zero, List.set_cons_succ]
          refine wpAnyH_take_dst (i := 19) (v := .pointer (some ⟨b, o + i * 3, none⟩)) (d := some 56) rfl rfl (by kernel_rfl) (by kernel_rfl) (by kernel_rfl) (fun _ _ _ h => h) (Or.inl ⟨by rfl, ?_⟩) hH ?_
          · (intro w hSw; (try dsimp only at hSw); go_split_ands; go_simp; try with_reducible rfl)
          try simp only [Act.put, List.setIfInBounds_toArray, List.set_cons_zero, List.set_cons_succ]
          refine wpAnyH_take_dst (i := 20) (v := .pointer (some ⟨b, o + i * 3 + 2, none⟩)) (d := some 57) rfl rfl (by kernel_rfl) (by kernel_rfl) (by kernel_rfl) (fun _ _ _ h => h) (Or.inl ⟨by rfl, ?_⟩) hH ?_
          · (intro w hSw; (try dsimp only at hSw); go_split_ands; go_simp; try with_reducible rfl)
          try simp only [Act.put, List.setIfInBounds_toArray, List.set_cons_zero, List.set_cons_succ]
          refine wpAnyH_take_dst (i := 21) (v := .slice A' m' c') (d := some 58) rfl rfl (by kernel_rfl) (by kernel_rfl) (by kernel_rfl) (fun _ _ _ h => h) (Or.inl ⟨by rfl, ?_⟩) hH ?_
          · (intro w hSw; (try dsimp only at hSw); go_split_ands; go_simp; try with_reducible rfl)
          try simp only [Act.put, List.setIfInBounds_toArray, List.set_cons_zero, List.set_cons_succ]
          refine wpAnyH_take_dst (i := 23) (v := .pointer (some ⟨p, 0, none⟩)) (d := some 60) rfl rfl (by kernel_rfl) (by kernel_rfl) (by kernel_rfl) (fun _ _ _ h => h) (Or.inl ⟨by rfl, ?_⟩) hH ?_
          · (intro w hSw; (try dsimp only at hSw); go_split_ands; go_simp; try with_reducible rfl)
          try simp only [Act.put, List.setIfInBounds_toArray, List.set_cons_zero, List.set_cons_succ]
          refine wpAnyH_take_dst (i := 24) (v := .agg #[.slice AS 3 cS]) (d := some 61) rfl rfl (by kernel_rfl) (by kernel_rfl) (by kernel_rfl) (fun _ _ _ h => h) (Or.inl ⟨by rfl, ?_⟩) hH ?_
          · (intro w hSw; (try dsimp only at hSw); go_split_ands; go_simp; try with_reducible rfl)
          try simp only [Act.put, List.setIfInBounds_toArray, List.set_cons_zero, List.set_cons_succ]
          refine wpAnyH_take_dst (i := 25) (v := .agg #[.int .i64 W.var, .slice SA 3 3, .slice SB 3 3]) (d := some 62) rfl rfl (by kernel_rfl) (by kernel_rfl) (by kernel_rfl) (fun _ _ _ h => h) (Or.inl ⟨by rfl, ?_⟩) hH ?_
          · (intro w hSw; (try dsimp only at hSw); go_split_ands; go_simp; try with_reducible rfl)
          try simp only [Act.put, List.setIfInBounds_toArray, List.set_cons_zero, List.set_cons_succ]
          refine wpAnyH_take_dst (i := 26) (v := .slice TA tn tc) (d := some 63) rfl rfl (by kernel_rfl) (by kernel_rfl) (by kernel_rfl) (fun _ _ _ h => h) (Or.inl ⟨by rfl, ?_⟩) hH ?_
          · (intro w hSw; (try dsimp only at hSw); go_split_ands; go_simp; try with_reducible rfl)
          try simp only [Act.put, List.setIfInBounds_toArray, List.set_cons_zero, List.set_cons_succ]
          refine wpAnyH_ready (rs := [22]) (by kernel_rfl) (by simp) ?_
          refine AllReadyH.cons rfl (fun K hK => ?_) AllReadyH.nil
          rw [if_pos (by rfl)]
          go_wp2_with (go_at_call 36; (with_reducible refine ((c_weightOfB HX.out (HYr.out.ext hH.2.2.2.2.2).sig (HWr.out.ext hH.2.2.2.2.2).rd (RdI.mk (RI.ext HRI.out hH.2.2.2.2.2)))).mono ?_); rintro e w9 ⟨rfl, hE9⟩)
          refine hK.out _ _ ⟨Ext.keep hE9 hH.1, Ext.keep hE9 hH.2.1, Ext.keep hE9 hH.2.2.1, Ext.keep hE9 hH.2.2.2.1, Ext.keep hE9 hH.2.2.2.2.1, Ext.trans hH.2.2.2.2.2 hE9⟩ (fun hH9 => ?_)
          clear hK hH; have hH := hH9; clear hH9
          try simp only [Act.put, List.setIfInBounds_toArray, List.set_cons_zero, List.set_cons_succ]
          refine wpAnyH_ready (rs := [27]) (by kernel_rfl) (by simp) ?_
          refine AllReadyH.cons rfl (fun K hK => ?_) AllReadyH.nil
          rw [if_pos (by rfl)]
          go_wp2_with (go_at_call 36; (with_reducible refine ((c_weightOfB HYY.out (HYr.out.ext hH.2.2.2.2.2).sig (HWr.out.ext hH.2.2.2.2.2).rd (RdI.mk (RI.ext HTr.out hH.2.2.2.2.2)))).mono ?_); rintro e w9 ⟨rfl, hE9⟩)
          refine hK.out _ _ ⟨Ext.keep hE9 hH.1, Ext.keep hE9 hH.2.1, Ext.keep hE9 hH.2.2.1, Ext.keep hE9 hH.2.2.2.1, Ext.keep hE9 hH.2.2.2.2.1, Ext.trans hH.2.2.2.2.2 hE9⟩ (fun hH9 => ?_)
          clear hK hH; have hH := hH9; clear hH9
          try simp only [Act.put, List.setIfInBounds_toArray, List.set_cons_zero, List.set_cons_succ]
          refine wpAnyH_take_dst (i := 28) (v := .bool false) (d := some 65) rfl rfl (by kernel_rfl) (by kernel_rfl) (by kernel_rfl) (fun _ _ _ h => h) (Or.inl ⟨by rfl, ?_⟩) hH ?_
          · (intro w hSw; (try dsimp only at hSw); go_split_ands; go_simp; try with_reducible rfl)
          try simp only [Act.put, List.setIfInBounds_toArray, List.set_cons_zero, List.set_cons_succ]
          refine wpAnyH_take_dst (i := 29) (v := .bool false) (d := some 66) rfl rfl (by kernel_rfl) (by kernel_rfl) (by kernel_rfl) (fun _ _ _ h => h) (Or.inl ⟨by rfl, ?_⟩) hH ?_
          · (intro w hSw; (try dsimp only at hSw); go_split_ands; go_simp; try with_reducible rfl)
          try simp only [Act.put, List.setIfInBounds_toArray, List.set_cons_zero, List.set_cons_succ]
          refine wpAnyH_take_dst (i := 30) (v := .bool false) (d := some 67) rfl rfl (by kernel_rfl) (by kernel_rfl) (by kernel_rfl) (fun _ _ _ h => h) (Or.inl ⟨by rfl, ?_⟩) hH ?_
          · (intro w hSw; (try dsimp only at hSw); go_split_ands; go_simp; try with_reducible rfl)
          try simp only [Act.put, List.setIfInBounds_toArray, List.set_cons_zero, List.set_cons_succ]
          refine wpAnyH_done (by kernel_rfl) ?_ _
          have hEr := hH.2.2.2.2.2
          clear hH
          go_wp2_with fail
          go_roundw
          case rel => exact ⟨i + 1, by go_num, by omega, Ext.trans hE hEr⟩
          case measure => simp only [intOf]; omega
      · go_wp2_with fail
        go_ret
        exact ⟨rfl, Ext.trans hE010 hE⟩

set_option maxRecDepth 100000 in
theorem lifted (os : Os) (started : os.Started) (H : Type) (enc : TypeId × Value → H) :
    ReturnsInHanded {} Try.checked os 6 .any (Rows.fnKboWalkSpec.pre6 enc Try.prog Try.f6 Rows.fnKboWalkRow.domain false) (Rows.fnKboWalkSpec.post enc Try.prog Try.f6 false true false false) := by
  refine returnsInHanded_of_change (C := Try.checked) own started (by kernel_rfl) Try.func6
    (ChangeSpec.witness6 (enc := enc) (C := Try.checked) false ⟨#[], #[.slice none 0 0], []⟩ 8 (by kernel_rfl) (by kernel_rfl) (by kernel_rfl) (by kernel_rfl)) ?_
  intro W base args ds gs before hval0 hW hcnd _
  have hval : ∀ (j : Nat) t v, Try.f6.params[j]? = some t → args[j]? = some v → Value.okWide Try.prog W .any base t v := hval0
  have hW' := hW
  obtain ⟨p, q, hA0, hV, rfl, hfz, hnd⟩ := hW
  have hA : DataW.TrodAll enc Try.prog W 0 (fun _ => true) true Try.f6.params.toList args.toList ds p := hA0
  rw [Try.params6] at hA hval
  obtain ⟨v0, vs0, d0, ds0, p0, q0, hargs, rfl, rfl, h0, r0⟩ := trodAll_cons hA
  obtain ⟨rfl, rfl, rfl⟩ := trodAll_nil r0
  obtain rfl : args = #[v0] := by cases args; simp_all
  obtain ⟨rfl, rfl⟩ := trodVars_none hV
  have k0 := h0
  have lt0 : ∀ x ∈ p0, x.block < W.heap.size := by obtain ⟨m, hm⟩ := k0; exact DataW.trod_lt m _ _ _ hm
  obtain ⟨x0, w0⟩ := raw_By (hval 0 22 v0 rfl rfl) h0
  clear hA0 hval0
  refine (walk w0).mono fun e W' ⟨he, bel⟩ => ?_
  subst he
  exact ⟨_, rfl, _, _, _, [], _, [], hW', trodAll_mk1 (shut_bool Try.underlying4 _), (trodAll_cons_mk (Below.trod laidOut (by kernel_rfl) (of_decide_eq_true (by kernel_rfl)) k0 bel lt0) trodAll_mk0), rfl, bel.frame _, fun h => by cases h⟩

theorem over : Rows.fnKboWalkRow.holds Try.pinned (OpenSpec.ofChange Rows.fnKboWalkSpec) :=
  OpenClaim.holds_of_wide 6 Try.f6 rfl rfl rfl rfl rfl rfl rfl ⟨rfl, rfl, rfl, rfl, rfl⟩ rfl rfl rfl rfl rfl (by kernel_rfl) Try.func6 (by kernel_rfl)
    (of_decide_eq_true (by kernel_rfl)) (by unfold Func.isWrapper; first | (rw [if_pos (by decide +kernel)]; kernel_rfl) | (rw [if_neg (by decide +kernel)]; exact ⟨rfl, rfl⟩))
    (fun os started H enc _ => lifted os started H enc)

theorem proved : Rows.FnKboWalkSaid := over

end Go.Proofs.Ytleahogikppepaa.FnKboWalk
