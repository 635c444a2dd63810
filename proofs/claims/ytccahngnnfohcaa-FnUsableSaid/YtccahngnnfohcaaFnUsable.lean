/- Proved: for every input the law FnUsable returns true, does not panic, and its argument reads afterwards as it read before. Conditions: none. -/
import Derived.Test.YtccahngnnfohcaaHeld
import Derived.Test.YtccahngnnfohcaaOpenBy
import Derived.Test.YtccahngnnfohcaaUseI
import Derived.Test.YtccahngnnfohcaaMUseW
import Derived.Test.YtccahngnnfohcaaStp
import Derived.Test.YtccahngnnfohcaaDicSy
-- rd: RdSyK
namespace Go.Proofs.Ytccahngnnfohcaa.FnUsable
open Go.ChangeShapes Go.WideShapes Go.ChangeAt Go.RowKit
set_option linter.unusedSimpArgs false
set_option linter.unusedVariables false
set_option linter.constructorNameAsVariable false

abbrev arU : List Int := [2, 1, 0]
/-- The term so far, and what can be used from it. -/
def TmU (lo : Nat) (w : World) (rs : List Ru) (U : List Int) (A : Option Addr) (n : Nat) : Prop := ∃ t, LsAt lo w A n t ∧ TermP arU t ∧ Use ⟨arU, rs⟩ U t
set_option maxRecDepth 100000 in
set_option maxHeartbeats 16000000 in
theorem walk {v0 : Value} {x0 : Nat} {w : World} (h0 : RawBy w v0 x0) :
    Calls Try.prog 8 #[v0] w fun e w' => e = .returned (.bool true) ∧ Ext w w' := by
  have H0 := Lib.hid h0
  obtain ⟨bb, hbb⟩ : ∃ bb, decide (4096 < x0) = bb := ⟨_, rfl⟩
  have HBB := Lib.hid hbb
  obtain ⟨i0, hii, hiz, his, hib⟩ := info_parts int64_info
  clear h0 hbb
  go_enter Try.func8, Try.ntmps8
  go_wp2_with fail
  (with_reducible refine (c_big HBB.out H0.out).mono ?_)
  rintro e w1 ⟨rfl, hE1⟩
  cases bb with
  | true =>
    go_wp2
    go_ret
    exact ⟨rfl, hE1⟩
  | false =>
    have hx : x0 ≤ 4096 := by have := HBB.out; simpa using this
    have H1 := Lib.hid (H0.out.ext hE1)
    go_wp2_with fail
    (with_reducible refine (c_roll H1.out hx).mono ?_)
    rintro e w2 ⟨g, rfl, hD2, hg2, hE2⟩
    have hE02 : Ext w w2 := Ext.trans hE1 hE2
    have hgw : w.heap.size ≤ g := by have := hE1.size; omega
    have hgl := hD2.lt
    go_wp2_with fail
    (with_reducible refine (c_w9System hD2).mono ?_)
    rintro e w3 ⟨AS, cS, B, m, d, rs, rfl, hS3, hR3, hl3, hG3, hD3, hO3⟩
    have hs3 := hO3.size
    have HY4 := Lib.hid (SysAt.mk' (c := cS) (d := d) (v := .bool true) hS3 hR3 hs3)
    have HSY := Lib.hid (show SysP ⟨arU, rs⟩ from good_sys hl3 hG3)
    have hE03 : Ext w w3 := hO3.ext hE02 hgw
    obtain ⟨w4, hw4⟩ : ∃ w4, w4 = w3.alloc (.cells #[.slice AS 3 cS, .slice B m d] 34) := ⟨_, rfl⟩
    rw [← hw4] at HY4
    have hE34 : Ext w3 w4 := by rw [hw4]; (repeat' (first | (with_reducible exact Ext.refl _) | (with_reducible assumption) | (with_reducible refine Ext.alloc ?_ _) | (with_reducible refine Ext.set ?_ ?_ _) | (with_reducible refine Ext.drewN ?_ _) | (with_reducible refine Ext.drew ?_) | (with_reducible refine Ext.trans ?_ (by with_reducible assumption)) | go_size))
    have HD4 := Lib.hid (hD3.ext hE34)
    have hE04 := Ext.trans hE03 hE34
    have hs34 := hE34.size
    clear hS3 hR3 hD3 hO3 hG3
    go_wp2_with fail
    rw [← hw4]
    have hp4' : w4.heap.size = w3.heap.size + 1 := by rw [hw4]; exact World.size_alloc ..
    have HP4' := Lib.hid hp4'
    clear hw4 hp4'
    obtain ⟨p, hp⟩ : ∃ p, p = w3.heap.size := ⟨_, rfl⟩
    rw [← hp] at HY4 ⊢
    have hpg : p ≠ g := by omega
    have HP4 := Lib.hid (show w4.heap.size = p + 1 by rw [hp]; exact HP4'.out)
    clear hp HP4'
    have hE4a : Ext w4 (w4.alloc (.cells #[.int .i64 1] 2)) := (Ext.refl w4).alloc _
    have HF4 := Lib.hid (show OwI (w4.alloc (.cells #[.int .i64 1] 2)) w4.heap.size (some ⟨p + 1, 0, none⟩) 1 1 [1] by rw [← HP4.out]; exact OwI.fresh (w := w4) [1] (by simp))
    have hlo4 : w2.heap.size ≤ w4.heap.size := by omega
    (with_reducible refine (c_w9Term (g := g) (vars := 1) (by omega) (by omega) 2 (by omega) 3 (by omega) (HD4.out.ext ((Ext.refl w4).alloc _))).mono ?_)
    rintro e w5 ⟨UT, nu, cu, u, rfl, hOu, oku, gu, hnu, hD5, hO5⟩
    have hlenU := hOu.len
    have hnu7 : nu ≤ 7 := hnu
    have HLU := Lib.hid hlenU
    have HRU := Lib.hid hOu.ri
    have HF5 := Lib.hid (HF4.out.only hO5 (by omega))
    have HY5 := Lib.hid ((HY4.out.ext hE4a).only hO5 hgl)
    have HD5 := Lib.hid hD5
    have hE05 : Ext w w5 := hO5.ext (Ext.trans hE04 hE4a) hgw
    have hs5 := hO5.size
    have hokT : (Tm.node 1 [u]).Ok arU := Ok_node.2 ⟨by rw [show (1 : Int) = ((1 : Nat) : Int) from rfl, arI3 (by omega)]; rfl, OkL_cons.2 ⟨oku, by simp [OkL]⟩⟩
    have hfl : (Tm.node 1 [u]).flat = 1 :: u.flat := by rw [flat_node, flatL_cons, flatL_nil, List.append_nil]
    have hTP0 : TermP arU (1 :: u.flat) := by
      rw [← hfl]
      exact termP_flat sigR3 hokT (by rw [hfl, List.length_cons, hlenU]; omega) (fun x hx => by
        rw [hfl] at hx
        rcases List.mem_cons.1 hx with rfl | hx
        · omega
        · have := gu x hx; omega)
    have HTP0 := Lib.hid hTP0
    clear hOu oku gu hlenU hD5 HF4 HD4 HY4 hokT hfl hTP0
    go_wp2_with (at_builtin; go_loud (refine wpList_append_full rfl (.tmp 18) (.tmp 20) 22 rfl i0 Try.underlying22 hii hiz his hib rfl HF5.out.ri rfl HRU.out (by have := flat_pos u; have := HLU.out; omega) (by omega) ?_))
    intro RA rc w6 hO6 hE6
    have hcap6 := hO6.cap
    have hlo5 : w2.heap.size ≤ w5.heap.size := by simp only [World.size_alloc] at hs5; omega
    have HL6 := Lib.hid (LsAt.own (lo := w2.heap.size) (show OwI w6 w5.heap.size RA (1 + nu) rc (1 :: u.flat) by simpa using hO6) hlo5)
    have HY6 := Lib.hid (HY5.out.ext hE6)
    have HD6 := Lib.hid (HD5.out.ext hE6)
    have hE06 := Ext.trans hE05 hE6
    have t0 := HY6.out.c0
    have t1 := HY6.out.c1
    obtain ⟨U, hU⟩ : ∃ U, U = useV ⟨arU, rs⟩ (1 :: u.flat) := ⟨_, rfl⟩
    have HU := Lib.hid hU
    have HUS := Lib.hid (show Use ⟨arU, rs⟩ U (1 :: u.flat) by rw [hU]; exact use_start HSY.out HTP0.out)
    clear hO6 HF5 HRU HY5 HD5 hU
    go_wp2_with fail
    (with_reducible refine (c_iUsableOf' HU.out HY6.out.rd (RdIc.mk hcap6 HL6.out.ri)).mono ?_)
    rintro e w7 ⟨UA, un, uc, rfl, hOU, hE7⟩
    have hlo6 : w2.heap.size ≤ w6.heap.size := by have := hE6.size; omega
    have HUL := Lib.hid (LsAt.own (lo := w2.heap.size) hOU hlo6)
    have HY7 := Lib.hid (HY6.out.ext hE7)
    have HD7 := Lib.hid (HD6.out.ext hE7)
    have HT7 := Lib.hid (show TmU w2.heap.size w7 rs U RA (1 + nu) from ⟨_, HL6.out.ext hE7, HTP0.out, HUS.out⟩)
    have hE07 := Ext.trans hE06 hE7
    clear hOU t0 t1 HY6 HD6 HL6 HTP0 HUS HU HLU
    go_wp2_with fail
    go_loopw [5, 7] (fun tv kv wr => ∃ k : Nat, kv = .int .i64 k ∧ k ≤ 4 ∧ (∃ A n c, tv = .slice A n c ∧ Hid (n ≤ c ∧ c ≤ 9223372036854775807) ∧ Hid (TmU w2.heap.size wr rs U A n)) ∧ Hid (SysAt w2.heap.size wr p AS cS B m d ⟨arU, rs⟩) ∧ Hid (Dice wr g) ∧ Hid (LsAt w2.heap.size wr UA un U) ∧ Ext w wr ∧ w2.heap.size ≤ wr.heap.size) (fun _ kv _ => 4 - (intOf kv).toNat)
    case atStart => exact ⟨0, rfl, by omega, ⟨_, _, _, rfl, Lib.hid hcap6, HT7⟩, HY7, HD7, HUL, hE07, by have := hE7.size; omega⟩
    case round =>
      obtain ⟨k, rfl, hk4, ⟨TA, tn, tc, rfl, hcT, hT⟩, hY, hD, hUL, hE, hlr⟩ := hrel
      obtain ⟨t, hLT, hTP, hUse⟩ := hT.out
      have HLT := Lib.hid hLT
      have HTP := Lib.hid hTP
      have HUse := Lib.hid hUse
      clear hLT hTP hUse hT HY7 HD7 HUL HT7
      by_cases hlt : k < 4
      · have hki : (k : Int) < 4 := by omega
        have t0 := hY.out.c0
        have t1 := hY.out.c1
        go_wp2_with fail
        (with_reducible refine (c_StepsFrom hY.out.rd HSY.out HLT.out.ri hcT.out HTP.out).mono ?_)
        rintro e w8 ⟨LA, n, lc, sts, rfl, hR8, hn8, hall8, hE8⟩
        have HR8 := Lib.hid (hR8.lower hlr)
        have HAL := Lib.hid hall8
        have HY8 := Lib.hid (hY.out.ext hE8)
        have HD8 := Lib.hid (hD.out.ext hE8)
        have HUL8 := Lib.hid (hUL.out.ext hE8)
        have hE08 := Ext.trans hE hE8
        have hl8 : w2.heap.size ≤ w8.heap.size := by have := hE8.size; omega
        clear hR8 hall8 t0 t1 hY hD hUL
        rcases Nat.eq_zero_or_pos n with hn0 | hn0
        · subst hn0
          go_wp2_with fail
          go_ret
          exact ⟨rfl, hE08⟩
        · have hnz : ((n : Int) == 0) = false := by simp; omega
          go_wp2_with fail
          (with_reducible refine (c_below (n := (n : Int)) HD8.out (by omega) (by omega)).mono ?_)
          rintro e w9 ⟨x, rfl, hxr, hD9, hO9⟩
          obtain ⟨i, rfl⟩ : ∃ i : Nat, x = (i : Int) := ⟨x.toNat, by omega⟩
          have hin : i < n := by omega
          have HR9 := Lib.hid (HR8.out.only hO9 hgl)
          have HY9 := Lib.hid (HY8.out.only hO9 hgl)
          have HUL9 := Lib.hid (HUL8.out.only hO9 hgl)
          have HD9 := Lib.hid hD9
          have hE09 : Ext w w9 := hO9.ext hE08 hgw
          have hl9 : w2.heap.size ≤ w9.heap.size := by have := hO9.size; omega
          obtain ⟨b, o, st, A', m', c', rfl, hst, hlo, hc0, hc1, hc2, hcap', hri', hof⟩ := RSt.at_ HR9.out hin
          have hi0 : (0 : Int) ≤ (i : Int) := by omega
          have hii2 : (i : Int) < (n : Int) := by omega
          obtain ⟨w10, hw10⟩ : ∃ w10, w10 = w9.alloc (.cells #[.int .i64 st.at_, .int .i64 st.rule, .slice A' m' c'] 78) := ⟨_, rfl⟩
          have hE910 : Ext w9 w10 := by rw [hw10]; (repeat' (first | (with_reducible exact Ext.refl _) | (with_reducible assumption) | (with_reducible refine Ext.alloc ?_ _) | (with_reducible refine Ext.set ?_ ?_ _) | (with_reducible refine Ext.drewN ?_ _) | (with_reducible refine Ext.drew ?_) | (with_reducible refine Ext.trans ?_ (by with_reducible assumption)) | go_size))
          have q0 : w10.cell? ⟨w9.heap.size, 0, none⟩ = some (.int .i64 st.at_) := by rw [hw10]; simp [go_sem]
          have q1 : w10.cell? ⟨w9.heap.size, 1, none⟩ = some (.int .i64 st.rule) := by rw [hw10]; simp [go_sem]
          have q2 : w10.cell? ⟨w9.heap.size, 2, none⟩ = some (.slice A' m' c') := by rw [hw10]; simp [go_sem]
          have HNX := Lib.hid (show LsAt w2.heap.size w9 A' m' st.to from ⟨hri', hof⟩)
          have hSP := HAL.out st (List.mem_of_getElem? hst)
          have HSP := Lib.hid hSP
          have HY10 := Lib.hid (HY9.out.ext hE910)
          have HUL10 := Lib.hid (HUL9.out.ext hE910)
          have HD10 := Lib.hid (HD9.out.ext hE910)
          have HNX10 := Lib.hid (HNX.out.ext hE910)
          have hE010 := Ext.trans hE09 hE910
          have hl10 : w2.heap.size ≤ w10.heap.size := by have := hE910.size; omega
          clear hD9 hSP hri' hof HR8 HY8 HUL8 HD8 HNX hst
          by_cases ha0 : st.at_ = 0
          · have hz : (st.at_ == 0) = true := by simp [ha0]
            go_wp2_with fail
            go_ret
            exact ⟨rfl, Ext.trans hE09 ((Ext.refl _).alloc _)⟩
          · have hz : (st.at_ == 0) = false := by simp [ha0]
            obtain ⟨hmem, hUse2⟩ := use_step HSY.out HTP.out HUse.out HSP.out ha0
            have HMEM := Lib.hid hmem
            have HU2 := Lib.hid hUse2
            have hTP2 : TermP arU st.to := by
              obtain ⟨_, _, _, T', _, _, _, _, _, _, _, h⟩ := stepP_tree HSY.out HTP.out HSP.out
              exact h
            have HTP2 := Lib.hid hTP2
            clear hmem hUse2 hTP2 ha0
            go_wp2_with fail
            rw [← hw10]
            clear hw10 hc0 hc1 hc2
            obtain ⟨sb, hsb⟩ : ∃ sb, sb = w9.heap.size := ⟨_, rfl⟩
            rw [← hsb] at q0 q1 q2 ⊢
            clear hsb HR9 HY9 HUL9 HD9
            obtain ⟨rl, hrl⟩ : ∃ rl, rl = st.rule := ⟨_, rfl⟩
            rw [← hrl] at q1
            have HRL := Lib.hid hrl
            clear hrl
            go_loopw [10, 11] (fun uv iv wr => ∃ i : Nat, iv = .int .i64 i ∧ i ≤ un ∧ (∃ bq : Bool, uv = .bool bq ∧ Hid (bq = true ↔ ∃ j, j < i ∧ U[j]? = some rl)) ∧ Ext w10 wr) (fun _ iv _ => un - (intOf iv).toNat)
            case atStart => exact ⟨0, rfl, by omega, ⟨false, rfl, Lib.hid ⟨(by intro h; cases h), (by rintro ⟨j, h, _⟩; omega)⟩⟩, Ext.refl _⟩
            case round =>
              obtain ⟨j, rfl, hj, ⟨bq, rfl, hbq⟩, hEr⟩ := hrel
              by_cases hjl : j < un
              · obtain ⟨ub, uo, y, rfl, hyU, hyc⟩ : ∃ ub uo y, UA = some ⟨ub, uo, none⟩ ∧ U[j]? = some y ∧ wr.cell? ⟨ub, uo + j, none⟩ = some (.int .i64 y) := by
                  have h := HUL10.out.ri.ext hEr
                  obtain ⟨ub, uo, e, hc⟩ := h.2 (by omega)
                  have hjl2 : j < U.length := by rw [h.len]; exact hjl
                  exact ⟨ub, uo, _, e, List.getElem?_eq_getElem hjl2, hc j _ (List.getElem?_eq_getElem hjl2)⟩
                have hji : (j : Int) < (un : Int) := by omega
                have hun : un ≤ 4194304 := HUL10.out.ri.le
                have hj0 : (0 : Int) ≤ (j : Int) := by omega
                have q1r := Ext.keep hEr q1
                obtain ⟨z, hz2⟩ : ∃ z, (y == rl) = z := ⟨_, rfl⟩
                have HYU := Lib.hid hyU
                clear hyU
                cases bq with
                | true =>
                  have HN := Lib.hid (show ∃ i, i < j + 1 ∧ U[i]? = some rl by
                    obtain ⟨i, h1, h2⟩ := hbq.out.1 rfl
                    exact ⟨i, by omega, h2⟩)
                  go_wp2_with fail
                  refine wp_region_held_drew (S := (fun w' => Ext wr w')) (by kernel_rfl) ?_ (fun hH => ?_)
                  · exact (Ext.refl wr).drew
                  refine wpAnyH_take_dst (i := 0) (v := .bool true) (d := some 51) rfl rfl (by kernel_rfl) (by kernel_rfl) (by kernel_rfl) (fun _ _ _ h => h) (Or.inl ⟨by rfl, ?_⟩) hH ?_
                  · (intro w hSw; (try dsimp only at hSw); go_split_ands; go_simp; try with_reducible rfl)
                  try simp only [Act.put, List.setIfInBounds_toArray, List.set_cons_zero, List.set_cons_succ]
                  refine wpAnyH_take_dst (i := 1) (v := .bool true) (d := some 52) rfl rfl (by kernel_rfl) (by kernel_rfl) (by kernel_rfl) (fun _ _ _ h => h) (Or.inl ⟨by rfl, ?_⟩) hH ?_
                  · (intro w hSw; (try dsimp only at hSw); go_split_ands; go_simp; try with_reducible rfl)
                  try simp only [Act.put, List.setIfInBounds_toArray, List.set_cons_zero, List.set_cons_succ]
                  refine wpAnyH_take_dst (i := 2) (v := undef) (d := some 53) rfl rfl (by kernel_rfl) (by kernel_rfl) (by kernel_rfl) (fun _ _ _ h => h) (Or.inr ⟨by rfl, rfl⟩) hH ?_
                  try simp only [Act.put, List.setIfInBounds_toArray, List.set_cons_zero, List.set_cons_succ]
                  refine wpAnyH_take_dst (i := 3) (v := undef) (d := some 54) rfl rfl (by kernel_rfl) (by kernel_rfl) (by kernel_rfl) (fun _ _ _ h => h) (Or.inr ⟨by rfl, rfl⟩) hH ?_
                  try simp only [Act.put, List.setIfInBounds_toArray, List.set_cons_zero, List.set_cons_succ]
                  refine wpAnyH_take_dst (i := 4) (v := undef) (d := some 55) rfl rfl (by kernel_rfl) (by kernel_rfl) (by kernel_rfl) (fun _ _ _ h => h) (Or.inr ⟨by rfl, rfl⟩) hH ?_
                  try simp only [Act.put, List.setIfInBounds_toArray, List.set_cons_zero, List.set_cons_succ]
                  refine wpAnyH_take_dst (i := 5) (v := undef) (d := some 56) rfl rfl (by kernel_rfl) (by kernel_rfl) (by kernel_rfl) (fun _ _ _ h => h) (Or.inr ⟨by rfl, rfl⟩) hH ?_
                  try simp only [Act.put, List.setIfInBounds_toArray, List.set_cons_zero, List.set_cons_succ]
                  refine wpAnyH_take_dst (i := 6) (v := undef) (d := some 57) rfl rfl (by kernel_rfl) (by kernel_rfl) (by kernel_rfl) (fun _ _ _ h => h) (Or.inr ⟨by rfl, rfl⟩) hH ?_
                  try simp only [Act.put, List.setIfInBounds_toArray, List.set_cons_zero, List.set_cons_succ]
                  refine wpAnyH_take_dst (i := 7) (v := undef) (d := some 58) rfl rfl (by kernel_rfl) (by kernel_rfl) (by kernel_rfl) (fun _ _ _ h => h) (Or.inr ⟨by rfl, rfl⟩) hH ?_
                  try simp only [Act.put, List.setIfInBounds_toArray, List.set_cons_zero, List.set_cons_succ]
                  refine wpAnyH_take_dst (i := 8) (v := undef) (d := some 59) rfl rfl (by kernel_rfl) (by kernel_rfl) (by kernel_rfl) (fun _ _ _ h => h) (Or.inr ⟨by rfl, rfl⟩) hH ?_
                  try simp only [Act.put, List.setIfInBounds_toArray, List.set_cons_zero, List.set_cons_succ]
                  refine wpAnyH_take_dst (i := 9) (v := .bool true) (d := some 60) rfl rfl (by kernel_rfl) (by kernel_rfl) (by kernel_rfl) (fun _ _ _ h => h) (Or.inl ⟨by rfl, ?_⟩) hH ?_
                  · (intro w hSw; (try dsimp only at hSw); go_split_ands; go_simp; try with_reducible rfl)
                  try simp only [Act.put, List.setIfInBounds_toArray, List.set_cons_zero, List.set_cons_succ]
                  refine wpAnyH_take_dst (i := 10) (v := .bool true) (d := some 10) rfl rfl (by kernel_rfl) (by kernel_rfl) (by kernel_rfl) (fun _ _ _ h => h) (Or.inl ⟨by rfl, ?_⟩) hH ?_
                  · (intro w hSw; (try dsimp only at hSw); go_split_ands; go_simp; try with_reducible rfl)
                  try simp only [Act.put, List.setIfInBounds_toArray, List.set_cons_zero, List.set_cons_succ]
                  refine wpAnyH_done (by kernel_rfl) ?_ _
                  go_wp2_with fail
                  go_roundw
                  case rel => exact ⟨j + 1, by go_num, by omega, ⟨true, rfl, Lib.hid ⟨fun _ => HN.out, fun _ => rfl⟩⟩, Ext.trans hEr hH⟩
                  case measure => simp only [intOf]; omega
                | false =>
                  have HN := Lib.hid (show (z = true ↔ ∃ i, i < j + 1 ∧ U[i]? = some rl) from by
                    rw [← hz2, beq_iff_eq]
                    constructor
                    · intro e; exact ⟨j, by omega, by rw [← e]; exact HYU.out⟩
                    · rintro ⟨i, h1, h2⟩
                      rcases Nat.lt_or_ge i j with h | h
                      · have := hbq.out.2 ⟨i, h, h2⟩; cases this
                      · obtain rfl : i = j := by omega
                        have := HYU.out; rw [h2] at this; exact (Option.some.inj this).symm)
                  go_wp2_with fail
                  refine wp_region_held_drew (S := (fun w' => w'.cell? ⟨ub, uo + j, none⟩ = some (.int .i64 y) ∧ w'.cell? ⟨sb, 1, none⟩ = some (.int .i64 rl) ∧ Ext wr w')) (by kernel_rfl) ?_ (fun hH => ?_)
                  · exact ⟨hyc, q1r, (Ext.refl wr).drew⟩
                  refine wpAnyH_take_dst (i := 0) (v := .bool false) (d := some 51) rfl rfl (by kernel_rfl) (by kernel_rfl) (by kernel_rfl) (fun _ _ _ h => h) (Or.inl ⟨by rfl, ?_⟩) hH ?_
                  · (intro w hSw; (try dsimp only at hSw); go_split_ands; go_simp; try with_reducible rfl)
                  try simp only [Act.put, List.setIfInBounds_toArray, List.set_cons_zero, List.set_cons_succ]
                  refine wpAnyH_take_dst (i := 1) (v := .bool false) (d := some 52) rfl rfl (by kernel_rfl) (by kernel_rfl) (by kernel_rfl) (fun _ _ _ h => h) (Or.inl ⟨by rfl, ?_⟩) hH ?_
                  · (intro w hSw; (try dsimp only at hSw); go_split_ands; go_simp; try with_reducible rfl)
                  try simp only [Act.put, List.setIfInBounds_toArray, List.set_cons_zero, List.set_cons_succ]
                  refine wpAnyH_take_dst (i := 2) (v := .slice (some ⟨ub, uo, none⟩) un uc) (d := some 53) rfl rfl (by kernel_rfl) (by kernel_rfl) (by kernel_rfl) (fun _ _ _ h => h) (Or.inl ⟨by rfl, ?_⟩) hH ?_
                  · (intro w hSw; (try dsimp only at hSw); go_split_ands; go_simp; try with_reducible rfl)
                  try simp only [Act.put, List.setIfInBounds_toArray, List.set_cons_zero, List.set_cons_succ]
                  refine wpAnyH_take_dst (i := 3) (v := .int .i64 (j : Int)) (d := some 54) rfl rfl (by kernel_rfl) (by kernel_rfl) (by kernel_rfl) (fun _ _ _ h => h) (Or.inl ⟨by rfl, ?_⟩) hH ?_
                  · (intro w hSw; (try dsimp only at hSw); go_split_ands; go_simp; try with_reducible rfl)
                  try simp only [Act.put, List.setIfInBounds_toArray, List.set_cons_zero, List.set_cons_succ]
                  refine wpAnyH_take_dst (i := 4) (v := .pointer (some ⟨ub, uo + j, none⟩)) (d := some 55) rfl rfl (by kernel_rfl) (by kernel_rfl) (by kernel_rfl) (fun _ _ _ h => h) (Or.inl ⟨by rfl, ?_⟩) hH ?_
                  · (intro w hSw; (try dsimp only at hSw); go_split_ands; go_simp; try with_reducible rfl)
                  try simp only [Act.put, List.setIfInBounds_toArray, List.set_cons_zero, List.set_cons_succ]
                  refine wpAnyH_take_dst (i := 5) (v := .int .i64 y) (d := some 56) rfl rfl (by kernel_rfl) (by kernel_rfl) (by kernel_rfl) (fun _ _ _ h => h) (Or.inl ⟨by rfl, ?_⟩) hH ?_
                  · (intro w hSw; (try dsimp only at hSw); go_split_ands; go_simp; try with_reducible rfl)
                  try simp only [Act.put, List.setIfInBounds_toArray, List.set_cons_zero, List.set_cons_succ]
                  refine wpAnyH_take_dst (i := 6) (v := .pointer (some ⟨sb, 1, none⟩)) (d := some 57) rfl rfl (by kernel_rfl) (by kernel_rfl) (by kernel_rfl) (fun _ _ _ h => h) (Or.inl ⟨by rfl, ?_⟩) hH ?_
                  · (intro w hSw; (try dsimp only at hSw); go_split_ands; go_simp; try with_reducible rfl)
                  try simp only [Act.put, List.setIfInBounds_toArray, List.set_cons_zero, List.set_cons_succ]
                  refine wpAnyH_take_dst (i := 7) (v := .int .i64 rl) (d := some 58) rfl rfl (by kernel_rfl) (by kernel_rfl) (by kernel_rfl) (fun _ _ _ h => h) (Or.inl ⟨by rfl, ?_⟩) hH ?_
                  · (intro w hSw; (try dsimp only at hSw); go_split_ands; go_simp; try with_reducible rfl)
                  try simp only [Act.put, List.setIfInBounds_toArray, List.set_cons_zero, List.set_cons_succ]
                  refine wpAnyH_take_dst (i := 8) (v := .bool z) (d := some 59) rfl rfl (by kernel_rfl) (by kernel_rfl) (by kernel_rfl) (fun _ _ _ h => h) (Or.inl ⟨by rfl, ?_⟩) hH ?_
                  · (intro w hSw; (try dsimp only at hSw); go_split_ands; go_simp; try with_reducible rfl)
                  try simp only [Act.put, List.setIfInBounds_toArray, List.set_cons_zero, List.set_cons_succ]
                  refine wpAnyH_take_dst (i := 9) (v := .bool z) (d := some 60) rfl rfl (by kernel_rfl) (by kernel_rfl) (by kernel_rfl) (fun _ _ _ h => h) (Or.inl ⟨by rfl, ?_⟩) hH ?_
                  · (intro w hSw; (try dsimp only at hSw); go_split_ands; go_simp; try with_reducible rfl)
                  try simp only [Act.put, List.setIfInBounds_toArray, List.set_cons_zero, List.set_cons_succ]
                  refine wpAnyH_take_dst (i := 10) (v := .bool z) (d := some 10) rfl rfl (by kernel_rfl) (by kernel_rfl) (by kernel_rfl) (fun _ _ _ h => h) (Or.inl ⟨by rfl, ?_⟩) hH ?_
                  · (intro w hSw; (try dsimp only at hSw); go_split_ands; go_simp; try with_reducible rfl)
                  try simp only [Act.put, List.setIfInBounds_toArray, List.set_cons_zero, List.set_cons_succ]
                  refine wpAnyH_done (by kernel_rfl) ?_ _
                  have hH2 := hH.2.2
                  clear hH
                  go_wp2_with fail
                  go_roundw
                  case rel => exact ⟨j + 1, by go_num, by omega, ⟨z, rfl, HN⟩, Ext.trans hEr hH2⟩
                  case measure => simp only [intOf]; omega
              · have hbt : bq = true := hbq.out.2 (by
                  obtain ⟨j', hj', e⟩ := List.mem_iff_getElem.1 HMEM.out
                  exact ⟨j', by have := HUL10.out.ri.len; omega, by rw [List.getElem?_eq_getElem hj', e, HRL.out]⟩)
                subst hbt
                have q2r := Ext.keep hEr q2
                go_wp2_with fail
                go_roundw
                case rel => exact ⟨k + 1, by go_num, by omega, ⟨_, _, _, rfl, Lib.hid hcap', Lib.hid ⟨_, HNX10.out.ext hEr, HTP2.out, HU2.out⟩⟩, Lib.hid (HY10.out.ext hEr), Lib.hid (HD10.out.ext hEr), Lib.hid (HUL10.out.ext hEr), Ext.trans hE010 hEr, by have := hEr.size; omega⟩
                case measure => simp only [intOf]; omega
      · go_wp2_with fail
        go_ret
        exact ⟨rfl, hE⟩

set_option maxRecDepth 100000 in
theorem lifted (os : Os) (started : os.Started) (H : Type) (enc : TypeId × Value → H) :
    ReturnsInHanded {} Try.checked os 8 .any (Rows.fnUsableSpec.pre6 enc Try.prog Try.f8 Rows.fnUsableRow.domain false) (Rows.fnUsableSpec.post enc Try.prog Try.f8 false true false false) := by
  refine returnsInHanded_of_change (C := Try.checked) own started (by kernel_rfl) Try.func8
    (ChangeSpec.witness6 (enc := enc) (C := Try.checked) false ⟨#[], #[.slice none 0 0], []⟩ 8 (by kernel_rfl) (by kernel_rfl) (by kernel_rfl) (by kernel_rfl)) ?_
  intro W base args ds gs before hval0 hW hcnd _
  have hval : ∀ (j : Nat) t v, Try.f8.params[j]? = some t → args[j]? = some v → Value.okWide Try.prog W .any base t v := hval0
  have hW' := hW
  obtain ⟨p, q, hA0, hV, rfl, hfz, hnd⟩ := hW
  have hA : DataW.TrodAll enc Try.prog W 0 (fun _ => true) true Try.f8.params.toList args.toList ds p := hA0
  rw [Try.params8] at hA hval
  obtain ⟨v0, vs0, d0, ds0, p0, q0, hargs, rfl, rfl, h0, r0⟩ := trodAll_cons hA
  obtain ⟨rfl, rfl, rfl⟩ := trodAll_nil r0
  obtain rfl : args = #[v0] := by cases args; simp_all
  obtain ⟨rfl, rfl⟩ := trodVars_none hV
  have k0 := h0
  have lt0 : ∀ x ∈ p0, x.block < W.heap.size := by obtain ⟨m, hm⟩ := k0; exact DataW.trod_lt m _ _ _ hm
  obtain ⟨x0, w0⟩ := raw_By (hval 0 55 v0 rfl rfl) h0
  clear hA0 hval0
  refine (walk w0).mono fun e W' ⟨he, bel⟩ => ?_
  subst he
  exact ⟨_, rfl, _, _, _, [], _, [], hW', trodAll_mk1 (shut_bool Try.underlying4 _), (trodAll_cons_mk (Below.trod laidOut (by kernel_rfl) (of_decide_eq_true (by kernel_rfl)) k0 bel lt0) trodAll_mk0), rfl, bel.frame _, fun h => by cases h⟩

theorem over : Rows.fnUsableRow.holds Try.pinned (OpenSpec.ofChange Rows.fnUsableSpec) :=
  OpenClaim.holds_of_wide 8 Try.f8 rfl rfl rfl rfl rfl rfl rfl ⟨rfl, rfl, rfl, rfl, rfl⟩ rfl rfl rfl rfl rfl (by kernel_rfl) Try.func8 (by kernel_rfl)
    (of_decide_eq_true (by kernel_rfl)) (by unfold Func.isWrapper; first | (rw [if_pos (by decide +kernel)]; kernel_rfl) | (rw [if_neg (by decide +kernel)]; exact ⟨rfl, rfl⟩))
    (fun os started H enc _ => lifted os started H enc)

theorem proved : Rows.FnUsableSaid := over

end Go.Proofs.Ytccahngnnfohcaa.FnUsable
