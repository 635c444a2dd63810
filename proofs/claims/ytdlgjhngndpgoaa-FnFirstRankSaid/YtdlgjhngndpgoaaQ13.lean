/- Several texts in one: TermOk, MWt. -/
import Derived.Test.YtdlgjhngndpgoaaQ11
import Derived.Test.YtdlgjhngndpgoaaQ10
namespace Go.Proofs.Ytdlgjhngndpgoaa
open Go.RowKit
set_option linter.unusedSimpArgs false
set_option linter.unusedVariables false
set_option maxHeartbeats 400000 in
theorem c_slicesMin {v : Value} {t : List Int} {w : World} (h0 : RdI w v t) (hne : 1 ≤ t.length) :
    Calls Try.prog 108 #[v] w fun e w' => e = .returned (.int .i64 (minL t)) ∧ w = w' := by
  obtain ⟨A, n, c, rfl, ha⟩ := h0
  have hn := ha.le
  have hl := ha.len
  have hn1 : 1 ≤ n := by omega
  obtain ⟨b, o, x, rfl, hx, hcx⟩ := RI.at_ ha (show 0 < n by omega)
  have HA := Lib.hid ha
  have HL := Lib.hid hl
  have HX := Lib.hid hx
  rw [Nat.add_zero] at hcx
  clear ha hl hx hne
  go_enter Try.func108, Try.ntmps108
  go_wp2
  have e0 : x = minL (t.take 1) := by
    have := HX.out
    cases t with
    | nil => simp at this
    | cons y ys => simp at this; simp [minL, this]
  have E0 := Lib.hid e0
  clear e0
  go_loop [3, 4] (fun a i => ∃ k : Nat, i = .int .i64 k ∧ 1 ≤ k ∧ k ≤ n ∧ ∃ y, a = .int .i64 y ∧ Hid (y = minL (t.take k))) (fun _ i => n - (intOf i).toNat)
  case atStart => exact ⟨1, rfl, Nat.le_refl _, hn1, x, rfl, E0.out⟩
  case round =>
    obtain ⟨k, rfl, hk1, hk, y, rfl, hy⟩ := hrel
    by_cases hlt : k < n
    · obtain ⟨b', o', z, e', hz, hcz⟩ := RI.at_ HA.out hlt
      cases e'
      have e1 : minL (t.take (k + 1)) = if z < y then z else y := by
        rw [take_snoc hz, minL_snoc (by intro e; have := congrArg List.length e; rw [List.length_take, HL.out] at this; simp at this; omega), ← hy.out]
      have E1 := Lib.hid e1
      clear e1 hz
      go_wp2
      all_goals
        go_round
        case rel => exact ⟨k + 1, by go_num, by omega, by omega, _, rfl, by show _ = _; rw [E1.out]; try first | rw [if_pos (by omega)] | rw [if_neg (by omega)]⟩
        case measure => simp [intOf]; omega
    · go_wp2
      go_ret
      exact ⟨ret_int (by rw [hy.out, List.take_of_length_le (by rw [HL.out]; omega)]), rfl⟩
theorem z0q13 {p : Prop} (h : p := by (first | (first | (with_reducible exact RdI.mk (RI.ext (Hid.out (by with_reducible assumption)) (by exact extX))) | (with_reducible exact RdI.ext (by with_reducible assumption) (by exact extX))) | fail | (with_reducible exact RdSig.mk (by (first | (with_reducible exact RI.ext (Hid.out (by with_reducible assumption)) (by exact extX))))) | (with_reducible exact RdSig.ext (by with_reducible assumption) (by exact extX)))) : p := h
set_option maxHeartbeats 1000000 in
theorem c_iTermOk {v0 v1 : Value} {ar t : List Int} {w : World} (h0 : RdSig w v0 ar) (h1 : RdI w v1 t) :
    Calls Try.prog 94 #[v0, v1] w fun e w' => e = .returned (.bool (termOk ar t)) ∧ Ext w w' := by
  obtain ⟨A, n, c, rfl, ha⟩ := h0
  obtain ⟨B, m, d, rfl, hb⟩ := h1
  have hn := ha.le
  have hm := hb.le
  have hl := hb.len
  have HA := Lib.hid ha
  have HB := Lib.hid hb
  have HL := Lib.hid hl
  clear ha hb hl
  rcases hs : sigOk ar with _ | _
  · go_enter Try.func94, Try.ntmps94
    go_wp2_with (go_at_call 74; (with_reducible refine (c_iSigOk (ar := ar) z0q13).mono ?_); rintro e w1 ⟨rfl, hE1⟩; have hz1 := sz_of hE1; (try simp only [World.size_alloc, World.size_setCell, World.size_drew] at hz1); obtain ⟨hc1, hf1⟩ := bcell hE1; (try have hq1_0 : w.heap.size < w1.heap.size := by omega); (try have hq1_1 : w.heap.size + 1 < w1.heap.size := by omega); (try have hq1_2 : w.heap.size + 1 + 1 < w1.heap.size := by omega); (try have hq1_3 : w.heap.size + 1 + 1 + 1 < w1.heap.size := by omega); (try have hq1_4 : w.heap.size + 1 + 1 + 1 + 1 < w1.heap.size := by omega); (try have hq1_5 : w.heap.size + 1 + 1 + 1 + 1 + 1 < w1.heap.size := by omega))
    go_ret
    exact ⟨ret_bool (termOk_sig hs).symm, by exact extX⟩
  · have HS := Lib.hid hs
    by_cases hlen : 1 ≤ m ∧ m ≤ 60
    · obtain ⟨hm1, hm60⟩ := hlen
      have hne : t ≠ [] := by intro e; have := HL.out; rw [e] at this; simp at this; omega
      have hge := minL_ge (m := -24) hne
      have hd1 : decide ((m : Int) ≤ 60) = true := by simp; omega
      have hd2 : decide ((0 : Int) < (m : Int)) = true := by simp; omega
      have HNE := Lib.hid hne
      have HGE := Lib.hid hge
      clear hge hne
      by_cases hmin : -24 ≤ minL t
      · have hd3 : decide (-24 ≤ minL t) = true := by simpa using hmin
        have HM := Lib.hid hmin
        clear hmin
        go_enter Try.func94, Try.ntmps94
        go_wp2_with (first
          | (go_at_call 74; (with_reducible refine (c_iSigOk (ar := ar) z0q13).mono ?_); rintro e w1 ⟨rfl, hE1⟩; have hz1 := sz_of hE1; (try simp only [World.size_alloc, World.size_setCell, World.size_drew] at hz1); obtain ⟨hc1, hf1⟩ := bcell hE1; (try have hq1_0 : w.heap.size < w1.heap.size := by omega); (try have hq1_1 : w.heap.size + 1 < w1.heap.size := by omega); (try have hq1_2 : w.heap.size + 1 + 1 < w1.heap.size := by omega); (try have hq1_3 : w.heap.size + 1 + 1 + 1 < w1.heap.size := by omega); (try have hq1_4 : w.heap.size + 1 + 1 + 1 + 1 < w1.heap.size := by omega); (try have hq1_5 : w.heap.size + 1 + 1 + 1 + 1 + 1 < w1.heap.size := by omega))
          | (go_at_call 108; (with_reducible refine (c_slicesMin (t := t) z0q13 (by rw [HL.out]; exact hm1)).mono ?_); rintro e w2 ⟨rfl, rfl⟩)
          | (go_at_call 109; (with_reducible refine (c_endAt (p := 0) (ar := ar) (t := t) z0q13 z0q13 (sigOk_iff.1 HS.out) (by omega) (by omega)).mono ?_); rintro e w3 ⟨rfl, hE3⟩; have hz3 := sz_of hE3; (try simp only [World.size_alloc, World.size_setCell, World.size_drew] at hz3); obtain ⟨hc3, hf3⟩ := bcell hE3; (try have hq3_0 : w.heap.size < w3.heap.size := by omega); (try have hq3_1 : w.heap.size + 1 < w3.heap.size := by omega); (try have hq3_2 : w.heap.size + 1 + 1 < w3.heap.size := by omega); (try have hq3_3 : w.heap.size + 1 + 1 + 1 < w3.heap.size := by omega); (try have hq3_4 : w.heap.size + 1 + 1 + 1 + 1 < w3.heap.size := by omega); (try have hq3_5 : w.heap.size + 1 + 1 + 1 + 1 + 1 < w3.heap.size := by omega); (try have hx3_1 : w1.heap.size < w3.heap.size := by omega); (try have hx3_2 : w2.heap.size < w3.heap.size := by omega)))
        go_ret
        refine ⟨ret_bool ?_, by exact extX⟩
        by_cases hsc : scan (arI ar) t 1 = some t.length
        · rw [termOk_iff.2 ⟨sigOk_iff.1 HS.out, by rw [HL.out]; omega, HGE.out.1 HM.out, hsc⟩]
          have := endF_len.2 hsc
          show (endI ar t 0 == _) = _
          unfold endI; rw [this, HL.out]; simp
        · rw [termOk_f fun p => hsc p.2.2.2]
          have : ¬ endI ar t 0 = (m : Int) := by rw [← HL.out]; exact fun h => hsc (endF_len.1 h)
          simpa using this
      · have HM := Lib.hid hmin
        have hd3 : decide (-24 ≤ minL t) = false := by simpa using hmin
        clear hmin
        go_enter Try.func94, Try.ntmps94
        go_wp2_with (first
          | (go_at_call 74; (with_reducible refine (c_iSigOk (ar := ar) z0q13).mono ?_); rintro e w1 ⟨rfl, hE1⟩; have hz1 := sz_of hE1; (try simp only [World.size_alloc, World.size_setCell, World.size_drew] at hz1); obtain ⟨hc1, hf1⟩ := bcell hE1; (try have hq1_0 : w.heap.size < w1.heap.size := by omega); (try have hq1_1 : w.heap.size + 1 < w1.heap.size := by omega); (try have hq1_2 : w.heap.size + 1 + 1 < w1.heap.size := by omega); (try have hq1_3 : w.heap.size + 1 + 1 + 1 < w1.heap.size := by omega); (try have hq1_4 : w.heap.size + 1 + 1 + 1 + 1 < w1.heap.size := by omega); (try have hq1_5 : w.heap.size + 1 + 1 + 1 + 1 + 1 < w1.heap.size := by omega))
          | (go_at_call 108; (with_reducible refine (c_slicesMin (t := t) z0q13 (by rw [HL.out]; exact hm1)).mono ?_); rintro e w2 ⟨rfl, rfl⟩))
        go_ret
        exact ⟨ret_bool (termOk_f fun p => by have h1 := HGE.out.2 p.2.2.1; have h2 := HM.out; omega).symm, by exact extX⟩
    · go_enter Try.func94, Try.ntmps94
      go_wp2_with (go_at_call 74; (with_reducible refine (c_iSigOk (ar := ar) z0q13).mono ?_); rintro e w1 ⟨rfl, hE1⟩; have hz1 := sz_of hE1; (try simp only [World.size_alloc, World.size_setCell, World.size_drew] at hz1); obtain ⟨hc1, hf1⟩ := bcell hE1; (try have hq1_0 : w.heap.size < w1.heap.size := by omega); (try have hq1_1 : w.heap.size + 1 < w1.heap.size := by omega); (try have hq1_2 : w.heap.size + 1 + 1 < w1.heap.size := by omega); (try have hq1_3 : w.heap.size + 1 + 1 + 1 < w1.heap.size := by omega); (try have hq1_4 : w.heap.size + 1 + 1 + 1 + 1 < w1.heap.size := by omega); (try have hq1_5 : w.heap.size + 1 + 1 + 1 + 1 + 1 < w1.heap.size := by omega))
      all_goals go_ret
      all_goals exact ⟨ret_bool (termOk_f fun p => hlen (by have := p.2.1; rw [HL.out] at this; exact this)).symm, by exact extX⟩
theorem arS_none {ar : List Int} {x : Int} (h1 : ¬ (-24 ≤ x ∧ x ≤ -1)) (h2 : ¬ (0 ≤ x ∧ x ≤ (ar.length : Int) - 1)) : arS ar x = none := by
  unfold arS; rw [if_neg h1, if_neg (by omega)]
theorem arS_var {ar : List Int} {x : Int} (h1 : -24 ≤ x ∧ x ≤ -1) : arS ar x = some 0 := by unfold arS; rw [if_pos h1]
theorem arS_sym {ar : List Int} {x n : Int} (h2 : 0 ≤ x) (h : ar[x.toNat]? = some n) : arS ar x = some n.toNat := by
  have := (List.getElem?_eq_some_iff.1 h).1
  unfold arS; rw [if_neg (by omega), if_pos (by omega), List.getD_eq_getElem?_getD, h]; rfl
def optI : Option Nat → Int
  | none => -1
  | some a => a
set_option maxHeartbeats 400000 in
theorem c_l1Arity {v : Value} {ar : List Int} {x : Int} {w : World} (h0 : RdSig w v ar) (hs : SigP ar) :
    Calls Try.prog 106 #[v, .int .i64 x] w fun e w' => e = .returned (.int .i64 (optI (arS ar x))) ∧ Ext w w' := by
  obtain ⟨A, n, c, rfl, ha⟩ := h0
  have hn := ha.le
  have hl := ha.len
  by_cases h1 : -24 ≤ x ∧ x ≤ -1
  · have e := arS_var (ar := ar) h1
    have HE := Lib.hid e
    have H1 := Lib.hid h1
    clear e h1 hl hs ha
    go_enter Try.func106, Try.ntmps106
    go_wp2_with (go_at_call 55; (with_reducible refine (s_l1In_t H1.out).mono ?_); rintro e w2 ⟨rfl, rfl⟩)
    go_ret
    exact ⟨ret_int (by rw [HE.out]; rfl), by exact extX⟩
  · have hn1 : 1 ≤ n := by rw [← hl]; exact hs.1
    by_cases h2 : 0 ≤ x ∧ x ≤ (n : Int) - 1
    · obtain ⟨q, rfl⟩ := Int.eq_ofNat_of_zero_le h2.1
      obtain ⟨b, o, y, rfl, hy, hcy⟩ := RI.at_ ha (show q < n by omega)
      have hy2 := hs.2.2 y (List.mem_of_getElem? hy)
      have e := arS_sym (ar := ar) (x := (q : Int)) (by omega) (by rw [Int.toNat_natCast]; exact hy)
      have HE := Lib.hid e
      have H1 := Lib.hid h1
      have H2 := Lib.hid h2
      have hqi : (q : Int) < (n : Int) := by omega
      have hbl : b < w.heap.size := World.block_lt_of_cell? w _ hcy
      clear e h1 h2 hl hs ha hy
      go_enter Try.func106, Try.ntmps106
      go_wp2_with (first
        | (go_at_call 55; (with_reducible refine (s_l1In_f H1.out).mono ?_); rintro e w2 ⟨rfl, rfl⟩)
        | (go_at_call 55; (with_reducible refine (s_l1In_t H2.out).mono ?_); rintro e w2 ⟨rfl, rfl⟩))
      go_ret
      exact ⟨ret_int (by rw [HE.out]; show y = ((y.toNat : Nat) : Int); omega), by exact extX⟩
    · have e := arS_none (ar := ar) h1 (by rw [hl]; exact h2)
      have HE := Lib.hid e
      have H1 := Lib.hid h1
      have H2 := Lib.hid h2
      clear e h1 h2 hl hs ha
      go_enter Try.func106, Try.ntmps106
      go_wp2_with (first
        | (go_at_call 55; (with_reducible refine (s_l1In_f H1.out).mono ?_); rintro e w2 ⟨rfl, rfl⟩)
        | (go_at_call 55; (with_reducible refine (s_l1In_f H2.out).mono ?_); rintro e w2 ⟨rfl, rfl⟩))
      go_ret
      exact ⟨ret_int (by rw [HE.out]; rfl), by exact extX⟩
theorem optI_none {o : Option Nat} (h : o = none) : optI o = -1 := by rw [h]; rfl
theorem optI_some {o : Option Nat} {a : Nat} (h : o = some a) : optI o = a := by rw [h]; rfl
theorem arS_le {ar : List Int} (h : SigP ar) {x : Int} {a : Nat} (hx : arS ar x = some a) : a ≤ 3 := arI_le h (by rw [← arS_arI (arS_lo hx)]; exact hx)
theorem c_l1Arity' {v : Value} {ar : List Int} {x r : Int} {w : World} (hr : optI (arS ar x) = r) (h0 : RdSig w v ar) (hs : SigP ar) :
    Calls Try.prog 106 #[v, .int .i64 x] w fun e w' => e = .returned (.int .i64 r) ∧ Ext w w' := by rw [← hr]; exact c_l1Arity h0 hs
set_option maxRecDepth 100000 in
set_option maxHeartbeats 1000000 in
theorem c_l1End {v0 v1 : Value} {ar t : List Int} {p : Int} {w : World} (h0 : RdSig w v0 ar) (h1 : RdI w v1 t) (hs : SigP ar) (hp0 : 0 ≤ p) (hp : p ≤ t.length) :
    Calls Try.prog 92 #[v0, v1, .int .i64 p] w fun e w' => e = .returned (.int .i64 (endS ar t p.toNat)) ∧ Ext w w' := by
  obtain ⟨p0, rfl⟩ := Int.eq_ofNat_of_zero_le hp0
  rw [Int.toNat_natCast]
  have hp : p0 ≤ t.length := by omega
  clear hp0
  obtain ⟨A, n, c, rfl, ha⟩ := h0
  obtain ⟨B, m, d, rfl, hb⟩ := h1
  have hm := hb.le
  have hl := hb.len
  have HA := Lib.hid ha
  have HB := Lib.hid hb
  have HS := Lib.hid hs
  have HP := Lib.hid hp
  have HL := Lib.hid hl
  clear ha hb hs hp hl
  go_enter Try.func92, Try.ntmps92
  go_wp2
  go_loopw [7, 8] (fun x i wr => ∃ p nd : Nat, i = .int .i64 p ∧ x = .int .i64 ((nd : Int) + 1) ∧ nd ≤ 3 * p ∧ Hid (ScanAt (arS ar) t p0 p (nd + 1)) ∧ Ext (w.alloc (.cells #[.slice A n c] 29)) wr) (fun _ i wr => m - (intOf i).toNat)
  case atStart => exact ⟨p0, 0, rfl, rfl, by omega, ScanAt.start HP.out, by exact extX⟩
  case round =>
    obtain ⟨p, nd, rfl, rfl, hnd, hsc, hE2⟩ := hrel
    have hpl : p ≤ m := by have := hsc.out.2.1; rw [HL.out] at this; exact this
    have hw : Ext w wr := by exact extX
    have hb0 : wr.cell? ⟨w.heap.size, 0, none⟩ = some (.slice A n c) := Ext.keep hE2 (by simp [go_sem])
    by_cases hlt : p < m
    · obtain ⟨b, o, x, rfl, hx, hcx⟩ := RI.at_ (RI.ext HB.out hw) hlt
      have HX := Lib.hid hx
      clear hx
      have hlt' : (p : Int) < (m : Int) := by omega
      have hp0' : (0 : Int) ≤ (p : Int) := by omega
      go_wp2_with fail
      go_still_tail 5, (by kernel_rfl)
      change wpList _ _ _ _ _ wr.drew
      have hE1 : Ext w wr.drew := by exact extX
      rcases hf : arS ar x with _ | a
      · have HF := Lib.hid (optI_none hf)
        have HO := Lib.hid (hsc.out.bad HX.out hf)
        clear hf
        go_wp2_with (go_at_call 106; (with_reducible refine (c_l1Arity' HF.out z0q13 HS.out).mono ?_); rintro e w3 ⟨rfl, hE3⟩; have hz3 := sz_of hE3; (try simp only [World.size_alloc, World.size_setCell, World.size_drew] at hz3); obtain ⟨hc3, hf3⟩ := bcell hE3; (try have hq3_0 : w.heap.size < w3.heap.size := by omega); (try have hq3_1 : w.heap.size + 1 < w3.heap.size := by omega); (try have hq3_2 : w.heap.size + 1 + 1 < w3.heap.size := by omega); (try have hq3_3 : w.heap.size + 1 + 1 + 1 < w3.heap.size := by omega); (try have hq3_4 : w.heap.size + 1 + 1 + 1 + 1 < w3.heap.size := by omega); (try have hq3_5 : w.heap.size + 1 + 1 + 1 + 1 + 1 < w3.heap.size := by omega); (try have hx3_1 : w1.heap.size < w3.heap.size := by omega); (try have hx3_2 : w2.heap.size < w3.heap.size := by omega))
        go_ret
        exact ⟨ret_int HO.out.symm, by exact extX⟩
      · have HF := Lib.hid (optI_some hf)
        have ha3 := arS_le HS.out hf
        have hst := hsc.out.step HX.out hf
        have HO := Lib.hid hst
        clear hf hst
        have e1 : ((nd : Int) + 1 + a - 1) = (nd + a : Nat) := by omega
        by_cases hz : nd + a = 0
        · have hnd0 : nd = 0 := by omega
          have ha0 : a = 0 := by omega
          subst hnd0 ha0
          go_wp2_with (go_at_call 106; (with_reducible refine (c_l1Arity' HF.out z0q13 HS.out).mono ?_); rintro e w3 ⟨rfl, hE3⟩; have hz3 := sz_of hE3; (try simp only [World.size_alloc, World.size_setCell, World.size_drew] at hz3); obtain ⟨hc3, hf3⟩ := bcell hE3; (try have hq3_0 : w.heap.size < w3.heap.size := by omega); (try have hq3_1 : w.heap.size + 1 < w3.heap.size := by omega); (try have hq3_2 : w.heap.size + 1 + 1 < w3.heap.size := by omega); (try have hq3_3 : w.heap.size + 1 + 1 + 1 < w3.heap.size := by omega); (try have hq3_4 : w.heap.size + 1 + 1 + 1 + 1 < w3.heap.size := by omega); (try have hq3_5 : w.heap.size + 1 + 1 + 1 + 1 + 1 < w3.heap.size := by omega); (try have hx3_1 : w1.heap.size < w3.heap.size := by omega); (try have hx3_2 : w2.heap.size < w3.heap.size := by omega))
          go_ret
          exact ⟨ret_int (by rw [show endS ar t p0 = _ from HO.out.done]; rfl), by exact extX⟩
        · go_wp2_with (go_at_call 106; (with_reducible refine (c_l1Arity' HF.out z0q13 HS.out).mono ?_); rintro e w3 ⟨rfl, hE3⟩; have hz3 := sz_of hE3; (try simp only [World.size_alloc, World.size_setCell, World.size_drew] at hz3); obtain ⟨hc3, hf3⟩ := bcell hE3; (try have hq3_0 : w.heap.size < w3.heap.size := by omega); (try have hq3_1 : w.heap.size + 1 < w3.heap.size := by omega); (try have hq3_2 : w.heap.size + 1 + 1 < w3.heap.size := by omega); (try have hq3_3 : w.heap.size + 1 + 1 + 1 < w3.heap.size := by omega); (try have hq3_4 : w.heap.size + 1 + 1 + 1 + 1 < w3.heap.size := by omega); (try have hq3_5 : w.heap.size + 1 + 1 + 1 + 1 + 1 < w3.heap.size := by omega); (try have hx3_1 : w1.heap.size < w3.heap.size := by omega); (try have hx3_2 : w2.heap.size < w3.heap.size := by omega))
          go_roundw
          case rel => exact ⟨p + 1, nd + a - 1, by go_num, by congr 1; omega, by omega, Lib.hid (by rw [show nd + a - 1 + 1 = nd + a by omega]; exact HO.out), by exact extX⟩
          case measure => simp only [intOf]; omega
    · go_wp2
      go_ret
      exact ⟨ret_int (hsc.out.out (by rw [HL.out]; omega)).symm, by exact extX⟩
theorem endS_len {ar t : List Int} : endS ar t 0 = t.length ↔ scan (arS ar) t 1 = some t.length := endF_len
set_option maxHeartbeats 1000000 in
theorem c_sTermOk {v0 v1 : Value} {ar t : List Int} {w : World} (h0 : RdSig w v0 ar) (h1 : RdI w v1 t) :
    Calls Try.prog 72 #[v0, v1] w fun e w' => e = .returned (.bool (termOk ar t)) ∧ Ext w w' := by
  obtain ⟨A, n, c, rfl, ha⟩ := h0
  obtain ⟨B, m, d, rfl, hb⟩ := h1
  have hm := hb.le
  have hl := hb.len
  have HA := Lib.hid ha
  have HB := Lib.hid hb
  have HL := Lib.hid hl
  clear ha hb hl
  cases hok : sigOk ar with
  | false =>
    go_enter Try.func72, Try.ntmps72
    go_wp2_with (go_at_call 53; (with_reducible refine (c_sSigOk (ar := ar) z0q13).mono ?_); rintro e w1 ⟨rfl, hE1⟩; have hz1 := sz_of hE1; (try simp only [World.size_alloc, World.size_setCell, World.size_drew] at hz1); obtain ⟨hc1, hf1⟩ := bcell hE1; (try have hq1_0 : w.heap.size < w1.heap.size := by omega); (try have hq1_1 : w.heap.size + 1 < w1.heap.size := by omega); (try have hq1_2 : w.heap.size + 1 + 1 < w1.heap.size := by omega); (try have hq1_3 : w.heap.size + 1 + 1 + 1 < w1.heap.size := by omega); (try have hq1_4 : w.heap.size + 1 + 1 + 1 + 1 < w1.heap.size := by omega); (try have hq1_5 : w.heap.size + 1 + 1 + 1 + 1 + 1 < w1.heap.size := by omega))
    go_ret
    exact ⟨ret_bool (termOk_sig hok).symm, by exact extX⟩
  | true =>
    have HS := Lib.hid (sigOk_iff.1 hok)
    by_cases hlen : 1 ≤ m ∧ m ≤ 60
    · have HLEN := Lib.hid hlen
      have hlen' : (1 : Int) ≤ (m : Int) ∧ (m : Int) ≤ 60 := by omega
      have HL' := Lib.hid hlen'
      clear hlen'
      have hT : decide (endS ar t 0 = (m : Int)) = termOk ar t := by
        by_cases hT : TermP ar t
        · rw [termOk_iff.2 hT]
          have := endS_len.2 (termP_S.1 hT).2.2
          rw [HL.out] at this
          simpa using this
        · rw [termOk_f hT]
          simp only [decide_eq_false_iff_not]
          intro hE
          exact hT (termP_S.2 ⟨HS.out, by rw [HL.out]; exact hlen, endS_len.1 (by rw [HL.out]; exact hE)⟩)
      have HT := Lib.hid hT
      clear hT hlen
      go_enter Try.func72, Try.ntmps72
      go_wp2_with (first
        | (go_at_call 53; (with_reducible refine (c_sSigOk (ar := ar) z0q13).mono ?_); rintro e w1 ⟨rfl, hE1⟩; have hz1 := sz_of hE1; (try simp only [World.size_alloc, World.size_setCell, World.size_drew] at hz1); obtain ⟨hc1, hf1⟩ := bcell hE1; (try have hq1_0 : w.heap.size < w1.heap.size := by omega); (try have hq1_1 : w.heap.size + 1 < w1.heap.size := by omega); (try have hq1_2 : w.heap.size + 1 + 1 < w1.heap.size := by omega); (try have hq1_3 : w.heap.size + 1 + 1 + 1 < w1.heap.size := by omega); (try have hq1_4 : w.heap.size + 1 + 1 + 1 + 1 < w1.heap.size := by omega); (try have hq1_5 : w.heap.size + 1 + 1 + 1 + 1 + 1 < w1.heap.size := by omega))
        | (go_at_call 55; (with_reducible refine (s_l1In_t HL'.out).mono ?_); rintro e w2 ⟨rfl, rfl⟩)
        | (go_at_call 92; (with_reducible refine (c_l1End (p := 0) z0q13 z0q13 HS.out (by omega) (by omega)).mono ?_); rintro e w3 ⟨rfl, hE3⟩; have hz3 := sz_of hE3; (try simp only [World.size_alloc, World.size_setCell, World.size_drew] at hz3); obtain ⟨hc3, hf3⟩ := bcell hE3; (try have hq3_0 : w.heap.size < w3.heap.size := by omega); (try have hq3_1 : w.heap.size + 1 < w3.heap.size := by omega); (try have hq3_2 : w.heap.size + 1 + 1 < w3.heap.size := by omega); (try have hq3_3 : w.heap.size + 1 + 1 + 1 < w3.heap.size := by omega); (try have hq3_4 : w.heap.size + 1 + 1 + 1 + 1 < w3.heap.size := by omega); (try have hq3_5 : w.heap.size + 1 + 1 + 1 + 1 + 1 < w3.heap.size := by omega); (try have hx3_1 : w1.heap.size < w3.heap.size := by omega); (try have hx3_2 : w2.heap.size < w3.heap.size := by omega)))
      all_goals (go_ret; exact ⟨ret_bool (by rw [← HT.out]; first | rfl | simp), by exact extX⟩)
    · have hlen' : ¬ ((1 : Int) ≤ (m : Int) ∧ (m : Int) ≤ 60) := by omega
      have HL' := Lib.hid hlen'
      have hT := termOk_f (ar := ar) (t := t) fun p => hlen (by have := p.2.1; rw [HL.out] at this; exact this)
      have HT := Lib.hid hT
      clear hlen hlen' hT
      go_enter Try.func72, Try.ntmps72
      go_wp2_with (first
        | (go_at_call 53; (with_reducible refine (c_sSigOk (ar := ar) z0q13).mono ?_); rintro e w1 ⟨rfl, hE1⟩; have hz1 := sz_of hE1; (try simp only [World.size_alloc, World.size_setCell, World.size_drew] at hz1); obtain ⟨hc1, hf1⟩ := bcell hE1; (try have hq1_0 : w.heap.size < w1.heap.size := by omega); (try have hq1_1 : w.heap.size + 1 < w1.heap.size := by omega); (try have hq1_2 : w.heap.size + 1 + 1 < w1.heap.size := by omega); (try have hq1_3 : w.heap.size + 1 + 1 + 1 < w1.heap.size := by omega); (try have hq1_4 : w.heap.size + 1 + 1 + 1 + 1 < w1.heap.size := by omega); (try have hq1_5 : w.heap.size + 1 + 1 + 1 + 1 + 1 < w1.heap.size := by omega))
        | (go_at_call 55; (with_reducible refine (s_l1In_f HL'.out).mono ?_); rintro e w2 ⟨rfl, rfl⟩))
      go_ret
      exact ⟨ret_bool HT.out.symm, by exact extX⟩
end Go.Proofs.Ytdlgjhngndpgoaa
namespace Go.Proofs.Ytdlgjhngndpgoaa
def RankP (ar rk : List Int) : Prop := SigP ar ∧ rk.length = ar.length ∧ ∀ i : Nat, i < rk.length → (i : Int) ∈ rk
noncomputable def rankOk (ar rk : List Int) : Bool := @decide (RankP ar rk) (Classical.propDecidable _)
theorem rankOk_iff {ar rk : List Int} : rankOk ar rk = true ↔ RankP ar rk := by simp [rankOk]
theorem rankOk_f {ar rk : List Int} (h : ¬ RankP ar rk) : rankOk ar rk = false := by simp only [rankOk, decide_eq_false_iff_not]; exact h
theorem rankOk_sig {ar rk : List Int} (h : sigOk ar = false) : rankOk ar rk = false := rankOk_f fun a => by rw [sigOk_iff.2 a.1] at h; cases h
theorem rankOk_len {ar rk : List Int} (h : ¬ rk.length = ar.length) : rankOk ar rk = false := rankOk_f fun a => h a.2.1
def upTo (n : Nat) : List Int := (List.range n).map fun (i : Nat) => (i : Int)
theorem upTo_len (n : Nat) : (upTo n).length = n := by simp [upTo]
theorem mem_upTo {n : Nat} {x : Int} : x ∈ upTo n ↔ 0 ≤ x ∧ x < n := by
  simp only [upTo, List.mem_map, List.mem_range]
  constructor
  · rintro ⟨i, hi, rfl⟩; omega
  · rintro ⟨h1, h2⟩; exact ⟨x.toNat, by omega, by omega⟩
theorem upTo_nodup (n : Nat) : (upTo n).Nodup := by
  unfold upTo List.Nodup
  rw [List.pairwise_map]
  refine List.Pairwise.imp ?_ (List.nodup_range (n := n))
  intro a b h e; exact h (by omega)
theorem rank_range {rk : List Int} (h : ∀ i : Nat, i < rk.length → (i : Int) ∈ rk) : ∀ x ∈ rk, 0 ≤ x ∧ x < rk.length := by
  intro x hx
  apply Classical.byContradiction
  intro hn
  have hsub : upTo rk.length ⊆ rk.erase x := by
    intro y hy
    have hy' := mem_upTo.1 hy
    have hm : y ∈ rk := by have := h y.toNat (by omega); rwa [show ((y.toNat : Nat) : Int) = y by omega] at this
    exact (List.mem_erase_of_ne (by rintro rfl; exact hn hy')).2 hm
  have := List.Nodup.length_le_of_subset (upTo_nodup _) hsub
  rw [upTo_len, List.length_erase_of_mem hx] at this
  have : 0 < rk.length := List.length_pos_of_mem hx
  omega
theorem rank_distinct {rk : List Int} (h : ∀ i : Nat, i < rk.length → (i : Int) ∈ rk) {i j : Nat} {x : Int} (hij : i < j) (hi : rk[i]? = some x) (hj : rk[j]? = some x) : False := by
  obtain ⟨hjl, ej⟩ := List.getElem?_eq_some_iff.1 hj
  obtain ⟨hil, ei⟩ := List.getElem?_eq_some_iff.1 hi
  have hsub : upTo rk.length ⊆ rk.eraseIdx j := by
    intro y hy
    have hy' := mem_upTo.1 hy
    have hm : y ∈ rk := by have := h y.toNat (by omega); rwa [show ((y.toNat : Nat) : Int) = y by omega] at this
    rw [List.mem_eraseIdx_iff_getElem]
    obtain ⟨k, hk, ek⟩ := List.mem_iff_getElem.1 hm
    by_cases hkj : k = j
    · subst hkj
      exact ⟨i, ⟨hil, by omega, by rw [ei, ← ek, ej]⟩⟩
    · exact ⟨k, ⟨hk, hkj, ek⟩⟩
  have := List.Nodup.length_le_of_subset (upTo_nodup _) hsub
  rw [upTo_len, List.length_eraseIdx] at this
  rw [if_pos hjl] at this
  omega
theorem rank_all {rk : List Int} (h1 : ∀ x ∈ rk, 0 ≤ x ∧ x < rk.length) (h2 : ∀ (i j : Nat) (x : Int), i < j → rk[i]? = some x → rk[j]? = some x → False) : ∀ i : Nat, i < rk.length → (i : Int) ∈ rk := by
  intro i hi
  apply Classical.byContradiction
  intro hn
  have hnd : rk.Nodup := by
    rw [List.Nodup, List.pairwise_iff_getElem]
    intro a b ha hb hab e
    exact h2 a b rk[a] hab (List.getElem?_eq_getElem ha) (by rw [List.getElem?_eq_getElem hb, e])
  have hsub : rk ⊆ (upTo rk.length).erase i := by
    intro x hx
    refine (List.mem_erase_of_ne ?_).2 (mem_upTo.2 (h1 x hx))
    rintro rfl; exact hn hx
  have := List.Nodup.length_le_of_subset hnd hsub
  rw [List.length_erase_of_mem (mem_upTo.2 ⟨by omega, by omega⟩), upTo_len] at this
  omega
end Go.Proofs.Ytdlgjhngndpgoaa
