/- Proved: for every input the law FnCapped returns true, does not panic, and its argument reads afterwards as it read before. Conditions: none. -/
import Derived.Test.YtdkiejhimmkocaaHeld
import Derived.Test.YtdkiejhimmkocaaOpenBy
import Derived.Test.YtdkiejhimmkocaaCapO
import Derived.Test.YtdkiejhimmkocaaInst
import Derived.Test.YtdkiejhimmkocaaDicSy
-- rd: RdSyK
namespace Go.Proofs.Ytdkiejhimmkocaa.FnCapped
open Go.ChangeShapes Go.WideShapes Go.ChangeAt Go.RowKit
set_option linter.unusedSimpArgs false
set_option linter.unusedVariables false
set_option linter.constructorNameAsVariable false

abbrev arU : List Int := [2, 1, 0]
/-- The term so far, and its pattern. -/
def TmC (lo : Nat) (w : World) (rs : List Ru) (o : List Int) (A : Option Addr) (n : Nat) : Prop := ∃ t, LsAt lo w A n t ∧ TermP arU t ∧ CapW ⟨arU, rs⟩ o t
set_option maxRecDepth 100000 in
set_option maxHeartbeats 16000000 in
theorem walk {v0 : Value} {x0 : Nat} {w : World} (h0 : RawBy w v0 x0) :
    Calls Try.prog 3 #[v0] w fun e w' => e = .returned (.bool true) ∧ Ext w w' := by
  have H0 := Lib.hid h0
  obtain ⟨bb, hbb⟩ : ∃ bb, decide (4096 < x0) = bb := ⟨_, rfl⟩
  have HBB := Lib.hid hbb
  obtain ⟨i0, hii, hiz, his, hib⟩ := info_parts int64_info
  clear h0 hbb
  go_enter Try.func3, Try.ntmps3
  go_wp2_with fail
  (with_reducible refine (c_big HBB.out H0.out).mono ?_)
  rintro e w1 ⟨rfl, hE1⟩
  cases bb with
  | true =>
    go_wp2
    go_ret
    exact ⟨rfl, hE1⟩
  | false =>
    have hx : x0 ≤ 4096 := by have := HBB.out; simpa using this
    have H1 := Lib.hid (H0.out.ext hE1)
    go_wp2_with fail
    (with_reducible refine (c_roll H1.out hx).mono ?_)
    rintro e w2 ⟨g, rfl, hD2, hg2, hE2⟩
    have hE02 : Ext w w2 := Ext.trans hE1 hE2
    have hgw : w.heap.size ≤ g := by have := hE1.size; omega
    have hgl := hD2.lt
    go_wp2_with fail
    (with_reducible refine (c_w9System hD2).mono ?_)
    rintro e w3 ⟨AS, cS, B, m, d, rs, rfl, hS3, hR3, hl3, hG3, hD3, hO3⟩
    have hs3 := hO3.size
    have HY4 := Lib.hid (SysAt.mk' (c := cS) (d := d) (v := .bool true) hS3 hR3 hs3)
    have HSY := Lib.hid (show SysP ⟨arU, rs⟩ from good_sys hl3 hG3)
    have hE03 : Ext w w3 := hO3.ext hE02 hgw
    obtain ⟨w4, hw4⟩ : ∃ w4, w4 = w3.alloc (.cells #[.slice AS 3 cS, .slice B m d] 32) := ⟨_, rfl⟩
    rw [← hw4] at HY4
    have hE34 : Ext w3 w4 := by rw [hw4]; (repeat' (first | (with_reducible exact Ext.refl _) | (with_reducible assumption) | (with_reducible refine Ext.alloc ?_ _) | (with_reducible refine Ext.set ?_ ?_ _) | (with_reducible refine Ext.drewN ?_ _) | (with_reducible refine Ext.drew ?_) | (with_reducible refine Ext.trans ?_ (by with_reducible assumption)) | go_size))
    have HD4 := Lib.hid (hD3.ext hE34)
    have hE04 := Ext.trans hE03 hE34
    have hs34 := hE34.size
    clear hS3 hR3 hD3 hO3 hG3
    go_wp2_with fail
    rw [← hw4]
    have hp4' : w4.heap.size = w3.heap.size + 1 := by rw [hw4]; exact World.size_alloc ..
    have HP4' := Lib.hid hp4'
    clear hw4 hp4'
    obtain ⟨p, hp⟩ : ∃ p, p = w3.heap.size := ⟨_, rfl⟩
    rw [← hp] at HY4 ⊢
    have hpg : p ≠ g := by omega
    clear hp HP4'
    have hlo4 : w2.heap.size ≤ w4.heap.size := by omega
    (with_reducible refine (c_w9Term (g := g) (vars := 2) (by omega) (by omega) 3 (by omega) 4 (by omega) HD4.out).mono ?_)
    rintro e w5 ⟨RA, nu, rc, u, rfl, hOu, oku, gu, hnu, hD5, hO5⟩
    have hlenU := hOu.len
    have hnu15 : nu ≤ 15 := hnu
    have hcap6 := hOu.cap
    have HL5 := Lib.hid (LsAt.own (lo := w2.heap.size) hOu hlo4)
    have HTP0 := Lib.hid (show TermP arU u.flat from tm3 (d := 3) (vars := 2) (by omega) (by omega) oku (by rw [hlenU]; exact hnu) gu)
    have HY5 := Lib.hid (HY4.out.only hO5 hgl)
    have HD5 := Lib.hid hD5
    have hE05 : Ext w w5 := hO5.ext hE04 hgw
    have hs5 := hO5.size
    have hlo5 : w2.heap.size ≤ w5.heap.size := by omega
    have hF15 : capF ⟨arU, rs⟩ u.flat ≤ 15 := by have := capF_le (s := ⟨arU, rs⟩) HTP0.out; omega
    have hok : capOk ⟨arU, rs⟩ u.flat = true := by
      unfold capOk
      rw [sysOk_iff.2 HSY.out, termOk_iff.2 HTP0.out]
      simp; omega
    have HOK := Lib.hid hok.symm
    have HVV := Lib.hid (capV_t hok).symm
    have HTC := Lib.hid (show TermP arU (capO ⟨arU, rs⟩ u.flat) from capO_term (s := ⟨arU, rs⟩) HTP0.out (by omega))
    have HCW := Lib.hid (capW_start (s := ⟨arU, rs⟩) HTP0.out)
    obtain ⟨co, hco⟩ : ∃ co, co = capO ⟨arU, rs⟩ u.flat := ⟨_, rfl⟩
    rw [← hco] at HVV HTC HCW
    have HIN := Lib.hid (HCW.out.inst HTP0.out)
    have HLI := Lib.hid HCW.out.li
    have t0 := HY5.out.c0
    have t1 := HY5.out.c1
    clear hOu oku gu hnu hlenU hD5 HD4 HY4 hok hco hF15
    go_wp2_with fail
    (with_reducible refine (c_iCappedOf' HVV.out HOK.out HY5.out.rd (RdIc.mk hcap6 HL5.out.ri)).mono ?_)
    rintro e w6 ⟨UA, un, uc, rfl, hOU, hE6⟩
    have hcapU := hOU.cap
    have HUL6 := Lib.hid (LsAt.own (lo := w2.heap.size) hOU hlo5)
    have HY6 := Lib.hid (HY5.out.ext hE6)
    have HD6 := Lib.hid (HD5.out.ext hE6)
    have HL6 := Lib.hid (HL5.out.ext hE6)
    have hE06 := Ext.trans hE05 hE6
    have t0' := HY6.out.c0
    have t1' := HY6.out.c1
    clear hOU t0 t1 HY5 HD5 HL5 HVV HOK
    go_wp2_with fail
    (with_reducible refine (c_LinearT HLI.out HTC.out HY6.out.sig (RdI.mk HUL6.out.ri)).mono ?_)
    rintro e w61 ⟨rfl, hE61⟩
    have HY61 := Lib.hid (HY6.out.ext hE61)
    have HUL61 := Lib.hid (HUL6.out.ext hE61)
    have HL61 := Lib.hid (HL6.out.ext hE61)
    have t2' := HY61.out.c0
    go_wp2_with fail
    (with_reducible refine (c_InstanceT HIN.out HTC.out HTP0.out HY61.out.sig (RdI.mk HUL61.out.ri) HL61.out.ri hcap6).mono ?_)
    rintro e w7 ⟨rfl, hE62⟩
    have hE7 := Ext.trans hE61 hE62
    have HY7 := Lib.hid (HY6.out.ext hE7)
    have HD7 := Lib.hid (HD6.out.ext hE7)
    have HUL := Lib.hid (HUL6.out.ext hE7)
    have HT7 := Lib.hid (show TmC w2.heap.size w7 rs co RA nu from ⟨_, HL6.out.ext hE7, HTP0.out, HCW.out⟩)
    have hE07 := Ext.trans hE06 hE7
    have hlo7 : w2.heap.size ≤ w7.heap.size := by have := hE7.size; have := hE6.size; omega
    clear t0' t1' t2' HY6 HD6 HL6 HUL6 HY61 HUL61 HL61 HTP0 HCW HIN hE6 hE61 hE62 hE7
    go_wp2_with fail
    go_loopw [5, 8] (fun tv kv wr => ∃ k : Nat, kv = .int .i64 k ∧ k ≤ 3 ∧ (∃ A n c, tv = .slice A n c ∧ Hid (n ≤ c ∧ c ≤ 9223372036854775807) ∧ Hid (TmC w2.heap.size wr rs co A n)) ∧ Hid (SysAt w2.heap.size wr p AS cS B m d ⟨arU, rs⟩) ∧ Hid (Dice wr g) ∧ Hid (LsAt w2.heap.size wr UA un co) ∧ Ext w wr ∧ w2.heap.size ≤ wr.heap.size) (fun _ kv _ => 3 - (intOf kv).toNat)
    case atStart => exact ⟨0, rfl, by omega, ⟨_, _, _, rfl, Lib.hid hcap6, HT7⟩, HY7, HD7, HUL, hE07, hlo7⟩
    case round =>
      obtain ⟨k, rfl, hk4, ⟨TA, tn, tc, rfl, hcT, hT⟩, hY, hD, hUL, hE, hlr⟩ := hrel
      obtain ⟨t, hLT, hTP, hUse⟩ := hT.out
      have HLT := Lib.hid hLT
      have HTP := Lib.hid hTP
      have HUse := Lib.hid hUse
      clear hLT hTP hUse hT HY7 HD7 HUL HT7
      by_cases hlt : k < 3
      · have hki : (k : Int) < 3 := by omega
        have t0 := hY.out.c0
        have t1 := hY.out.c1
        go_wp2_with fail
        (with_reducible refine (c_StepsFrom hY.out.rd HSY.out HLT.out.ri hcT.out HTP.out).mono ?_)
        rintro e w8 ⟨LA, n, lc, sts, rfl, hR8, hn8, hall8, hE8⟩
        have HR8 := Lib.hid (hR8.lower hlr)
        have HAL := Lib.hid hall8
        have HY8 := Lib.hid (hY.out.ext hE8)
        have HD8 := Lib.hid (hD.out.ext hE8)
        have HUL8 := Lib.hid (hUL.out.ext hE8)
        have hE08 := Ext.trans hE hE8
        have hl8 : w2.heap.size ≤ w8.heap.size := by have := hE8.size; omega
        clear hR8 hall8 t0 t1 hY hD hUL
        rcases Nat.eq_zero_or_pos n with hn0 | hn0
        · subst hn0
          go_wp2_with fail
          go_ret
          exact ⟨rfl, hE08⟩
        · have hnz : ((n : Int) == 0) = false := by simp; omega
          go_wp2_with fail
          (with_reducible refine (c_below (n := (n : Int)) HD8.out (by omega) (by omega)).mono ?_)
          rintro e w9 ⟨x, rfl, hxr, hD9, hO9⟩
          obtain ⟨i, rfl⟩ : ∃ i : Nat, x = (i : Int) := ⟨x.toNat, by omega⟩
          have hin : i < n := by omega
          have HR9 := Lib.hid (HR8.out.only hO9 hgl)
          have HY9 := Lib.hid (HY8.out.only hO9 hgl)
          have HUL9 := Lib.hid (HUL8.out.only hO9 hgl)
          have HD9 := Lib.hid hD9
          have hE09 : Ext w w9 := hO9.ext hE08 hgw
          have hl9 : w2.heap.size ≤ w9.heap.size := by have := hO9.size; omega
          obtain ⟨b, o, st, A', m', c', rfl, hst, hlo, hc0, hc1, hc2, hcap', hri', hof⟩ := RSt.at_ HR9.out hin
          have hi0 : (0 : Int) ≤ (i : Int) := by omega
          have hii2 : (i : Int) < (n : Int) := by omega
          obtain ⟨w10, hw10⟩ : ∃ w10, w10 = w9.alloc (.cells #[.int .i64 st.at_, .int .i64 st.rule, .slice A' m' c'] 42) := ⟨_, rfl⟩
          have hE910 : Ext w9 w10 := by rw [hw10]; (repeat' (first | (with_reducible exact Ext.refl _) | (with_reducible assumption) | (with_reducible refine Ext.alloc ?_ _) | (with_reducible refine Ext.set ?_ ?_ _) | (with_reducible refine Ext.drewN ?_ _) | (with_reducible refine Ext.drew ?_) | (with_reducible refine Ext.trans ?_ (by with_reducible assumption)) | go_size))
          have q0 : w10.cell? ⟨w9.heap.size, 0, none⟩ = some (.int .i64 st.at_) := by rw [hw10]; simp [go_sem]
          have q1 : w10.cell? ⟨w9.heap.size, 1, none⟩ = some (.int .i64 st.rule) := by rw [hw10]; simp [go_sem]
          have q2 : w10.cell? ⟨w9.heap.size, 2, none⟩ = some (.slice A' m' c') := by rw [hw10]; simp [go_sem]
          have HNX := Lib.hid (show LsAt w2.heap.size w9 A' m' st.to from ⟨hri', hof⟩)
          have hSP := HAL.out st (List.mem_of_getElem? hst)
          have HSP := Lib.hid hSP
          have HY10 := Lib.hid (HY9.out.ext hE910)
          have HUL10 := Lib.hid (HUL9.out.ext hE910)
          have HD10 := Lib.hid (HD9.out.ext hE910)
          have HNX10 := Lib.hid (HNX.out.ext hE910)
          have hE010 := Ext.trans hE09 hE910
          have hl10 : w2.heap.size ≤ w10.heap.size := by have := hE910.size; omega
          clear hD9 hSP hri' hof HR8 HY8 HUL8 HD8 HNX hst
          by_cases ha0 : st.at_ = 0
          · have hz : (st.at_ == 0) = true := by simp [ha0]
            go_wp2_with fail
            go_ret
            exact ⟨rfl, Ext.trans hE09 ((Ext.refl _).alloc _)⟩
          · have hz : (st.at_ == 0) = false := by simp [ha0]
            have HU2 := Lib.hid (CapW.step HSY.out HUse.out HTP.out HSP.out ha0)
            have hTP2 : TermP arU st.to := by
              obtain ⟨_, _, _, T', _, _, _, _, _, _, _, h⟩ := stepP_tree HSY.out HTP.out HSP.out
              exact h
            have HTP2 := Lib.hid hTP2
            have HIN2 := Lib.hid (HU2.out.inst hTP2)
            have y9 := HY9.out.c0
            have hpl9 : p < w9.heap.size := World.block_lt_of_cell? w9 _ y9
            clear hTP2 ha0
            go_wp2_with fail
            rw [← hw10]
            clear hw10 hc0 hc1 hc2
            obtain ⟨sb, hsb⟩ : ∃ sb, sb = w9.heap.size := ⟨_, rfl⟩
            rw [← hsb] at q0 q1 q2 ⊢
            clear hsb HR9 HY9 HUL9 HD9
            (with_reducible refine (c_InstanceT HIN2.out HTC.out HTP2.out HY10.out.sig (RdI.mk HUL10.out.ri) HNX10.out.ri hcap').mono ?_)
            rintro e w11 ⟨rfl, hEr⟩
            go_wp2_with fail
            go_roundw
            case rel => exact ⟨k + 1, by go_num, by omega, ⟨_, _, _, rfl, Lib.hid hcap', Lib.hid ⟨_, HNX10.out.ext hEr, HTP2.out, HU2.out⟩⟩, Lib.hid (HY10.out.ext hEr), Lib.hid (HD10.out.ext hEr), Lib.hid (HUL10.out.ext hEr), Ext.trans hE010 hEr, by have := hEr.size; omega⟩
            case measure => simp only [intOf]; omega
      · go_wp2_with fail
        go_ret
        exact ⟨rfl, hE⟩

set_option maxRecDepth 100000 in
theorem lifted (os : Os) (started : os.Started) (H : Type) (enc : TypeId × Value → H) :
    ReturnsInHanded {} Try.checked os 3 .any (Rows.fnCappedSpec.pre6 enc Try.prog Try.f3 Rows.fnCappedRow.domain false) (Rows.fnCappedSpec.post enc Try.prog Try.f3 false true false false) := by
  refine returnsInHanded_of_change (C := Try.checked) own started (by kernel_rfl) Try.func3
    (ChangeSpec.witness6 (enc := enc) (C := Try.checked) false ⟨#[], #[.slice none 0 0], []⟩ 8 (by kernel_rfl) (by kernel_rfl) (by kernel_rfl) (by kernel_rfl)) ?_
  intro W base args ds gs before hval0 hW hcnd _
  have hval : ∀ (j : Nat) t v, Try.f3.params[j]? = some t → args[j]? = some v → Value.okWide Try.prog W .any base t v := hval0
  have hW' := hW
  obtain ⟨p, q, hA0, hV, rfl, hfz, hnd⟩ := hW
  have hA : DataW.TrodAll enc Try.prog W 0 (fun _ => true) true Try.f3.params.toList args.toList ds p := hA0
  rw [Try.params3] at hA hval
  obtain ⟨v0, vs0, d0, ds0, p0, q0, hargs, rfl, rfl, h0, r0⟩ := trodAll_cons hA
  obtain ⟨rfl, rfl, rfl⟩ := trodAll_nil r0
  obtain rfl : args = #[v0] := by cases args; simp_all
  obtain ⟨rfl, rfl⟩ := trodVars_none hV
  have k0 := h0
  have lt0 : ∀ x ∈ p0, x.block < W.heap.size := by obtain ⟨m, hm⟩ := k0; exact DataW.trod_lt m _ _ _ hm
  obtain ⟨x0, w0⟩ := raw_By (hval 0 22 v0 rfl rfl) h0
  clear hA0 hval0
  refine (walk w0).mono fun e W' ⟨he, bel⟩ => ?_
  subst he
  exact ⟨_, rfl, _, _, _, [], _, [], hW', trodAll_mk1 (shut_bool Try.underlying4 _), (trodAll_cons_mk (Below.trod laidOut (by kernel_rfl) (of_decide_eq_true (by kernel_rfl)) k0 bel lt0) trodAll_mk0), rfl, bel.frame _, fun h => by cases h⟩

theorem over : Rows.fnCappedRow.holds Try.pinned (OpenSpec.ofChange Rows.fnCappedSpec) :=
  OpenClaim.holds_of_wide 3 Try.f3 rfl rfl rfl rfl rfl rfl rfl ⟨rfl, rfl, rfl, rfl, rfl⟩ rfl rfl rfl rfl rfl (by kernel_rfl) Try.func3 (by kernel_rfl)
    (of_decide_eq_true (by kernel_rfl)) (by unfold Func.isWrapper; first | (rw [if_pos (by decide +kernel)]; kernel_rfl) | (rw [if_neg (by decide +kernel)]; exact ⟨rfl, rfl⟩))
    (fun os started H enc _ => lifted os started H enc)

theorem proved : Rows.FnCappedSaid := over

end Go.Proofs.Ytdkiejhimmkocaa.FnCapped
