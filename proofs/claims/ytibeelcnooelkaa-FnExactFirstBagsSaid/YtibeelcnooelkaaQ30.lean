/- Several texts in one: LpsW, LpsV, NextS, MTries, MUp, Open, OpenT, Cnt, CoM. -/
import Derived.Test.YtibeelcnooelkaaQ29
import Derived.Test.YtibeelcnooelkaaQ16
import Derived.Test.YtibeelcnooelkaaQ19
import Derived.Test.YtibeelcnooelkaaQ17
import Derived.Test.YtibeelcnooelkaaQ10
import Derived.Test.YtibeelcnooelkaaQ11
import Derived.Test.YtibeelcnooelkaaQ12
import Derived.ProofKit
import Derived.OpenShut
import Derived.ShutString
import Derived.ChangeOld
import Derived.Lib.SmallJoins
import Derived.Test.YtibeelcnooelkaaQ24
namespace Go.Proofs.Ytibeelcnooelkaa
open Go.RowKit
set_option linter.unusedSimpArgs false
set_option linter.unusedVariables false
def putV (V : Nat → Nat → Int) (i j : Nat) (v : Int) : Nat → Nat → Int := fun a b => if a = i ∧ b = j then v else V a b
theorem RI.farS {w w' : World} {b o n : Nat} {xs : List Int} (h : RI w (some ⟨b, o, none⟩) n xs) (hk : w'.heap[b]? = w.heap[b]?) : RI w' (some ⟨b, o, none⟩) n xs :=
  ⟨h.1, fun hn => by
    obtain ⟨b', o', e, hc⟩ := h.2 hn
    cases e
    exact ⟨b, o, rfl, fun j x hx => (World.cell?_of_block hk).trans (hc j x hx)⟩⟩
theorem SC.H.put {Y : SC} {w : World} {V : Nat → Nat → Int} (h : Y.H w V) {i j : Nat} (hi : i < Y.k) (v : Int) : Y.H (w.setCell ⟨Y.row i, j, none⟩ (.int .i64 v)) (putV V i j v) := by
  obtain ⟨f1, f2, f3, f4, f5, f6, f7, f8⟩ := h.far i hi
  have hs : ∀ b, b ≠ Y.row i → (w.setCell ⟨Y.row i, j, none⟩ (.int .i64 v)).heap[b]? = w.heap[b]? := fun b hb => Below.heap_setCell _ _ _ _ hb
  have hc : ∀ {b o u}, b ≠ Y.row i → w.cell? ⟨b, o, none⟩ = some u → (w.setCell ⟨Y.row i, j, none⟩ (.int .i64 v)).cell? ⟨b, o, none⟩ = some u := fun hb e => (World.cell?_of_block (hs _ hb)).trans e
  have hargs : ∀ {ar t : List Int} {pa : Nat}, pa ≠ Y.row i → ArgsIn w ar t pa Y.row Y.k → ArgsIn (w.setCell ⟨Y.row i, j, none⟩ (.int .i64 v)) ar t pa Y.row Y.k := fun hp ha q hq => by
    obtain ⟨A, c, h1, h2, h3⟩ := ha q hq
    refine ⟨A, c, hc hp h1, ⟨h2.1, fun hn => ?_⟩, h3⟩
    obtain ⟨b, o, e, h4⟩ := h2.2 hn
    exact ⟨b, o, e, fun r x hx => hc (h3 b o none e i hi) (h4 r x hx)⟩
  refine ⟨h.a.farS (hs _ (Ne.symm f1)), h.r.farS (hs _ (Ne.symm f2)), h.s.farS (hs _ (Ne.symm f3)), h.t.farS (hs _ (Ne.symm f4)), hc (Ne.symm f5) h.c0, hc (Ne.symm f5) h.c1, hc (Ne.symm f5) h.c2, hc (Ne.symm f5) h.c3, hc (Ne.symm f5) h.c4, hc (Ne.symm f5) h.c5, hc (Ne.symm f5) h.c6, hargs (Ne.symm f6) h.sa, hargs (Ne.symm f7) h.ta, fun a ha => hc (Ne.symm f8) (h.wy a ha), fun a b ha hb => ?_, fun a b ha => by rw [World.frozen?_setCell]; exact h.fr a b ha, fun a ha => by simpa [World.setCell] using h.lt a ha, h.one, h.far⟩
  unfold putV
  by_cases e : a = i ∧ b = j
  · obtain ⟨rfl, rfl⟩ := e
    rw [if_pos ⟨rfl, rfl⟩]
    exact World.cell?_setCell_same _ _ _ (h.v a b ha hb)
  · rw [if_neg e]
    by_cases e2 : a = i
    · subst e2
      rw [World.cell?_setCell_other _ _ _ _ (by first | (simp; done) | (simp; omega) | (simp; intro e3; exact absurd ⟨rfl, e3⟩ e) | (simp; intro e3; exact absurd ⟨rfl, e3.symm⟩ e))]
      exact h.v a b ha hb
    · exact hc (fun e3 => e2 (h.one a i ha hi e3)) (h.v a b ha hb)
def Filled (Y : SC) (F : Tm → Tm → Nat) (V : Nat → Nat → Int) (i j : Nat) : Prop := ∀ a b, a < Y.s.length → b < Y.t.length → (j < b ∨ (b = j ∧ i ≤ a)) → V a b = (F (subT Y.ar Y.t b) (subT Y.ar Y.s a) : Int)
theorem Filled.step {Y : SC} {F : Tm → Tm → Nat} {V : Nat → Nat → Int} {i j : Nat} (h : Filled Y F V (i + 1) j) (v : Int) (hv : v = (F (subT Y.ar Y.t j) (subT Y.ar Y.s i) : Int)) : Filled Y F (putV V i j v) i j := by
  intro a b ha hb hab
  unfold putV
  by_cases e : a = i ∧ b = j
  · obtain ⟨rfl, rfl⟩ := e
    rw [if_pos ⟨rfl, rfl⟩]; exact hv
  · rw [if_neg e]
    exact h a b ha hb (by omega)
theorem Filled.next {Y : SC} {F : Tm → Tm → Nat} {V : Nat → Nat → Int} {j : Nat} (h : Filled Y F V 0 (j + 1)) : Filled Y F V Y.s.length j := fun a b ha hb hab => h a b ha hb (by omega)
theorem Filled.at_ {Y : SC} {F : Tm → Tm → Nat} {V : Nat → Nat → Int} {i j a b : Nat} {t s : Tm} (h : Filled Y F V (i + 1) j) (ha : a < Y.s.length) (hb : b < Y.t.length) (hs : subT Y.ar Y.s a = s) (ht : subT Y.ar Y.t b = t) (hab : j < b ∨ (b = j ∧ i + 1 ≤ a)) : V a b = (F t s : Int) := by
  rw [← hs, ← ht]; exact h a b ha hb hab
theorem pl_lt {i : Nat} {us : List Tm} {k : Nat} : i < pl i us k := by unfold pl; omega
end Go.Proofs.Ytibeelcnooelkaa
namespace Go.Proofs.Ytibeelcnooelkaa
open Go.RowKit
set_option linter.unusedSimpArgs false
set_option linter.unusedVariables false
def flagN (W : Tm → Tm → Nat) (t s : Tm) : Nat := if 0 < W t s then 1 else 0
theorem Told.flag {v : Int} {W : Tm → Tm → Nat} {t s : Tm} (h : v = (flagN W t s : Int)) : Told v (W t s) := by
  subst h; unfold flagN Told
  split <;> omega
theorem SC.H.out {Y : SC} {w : World} {V : Nat → Nat → Int} {F : Tm → Tm → Nat} (h : Y.H w V) (hP : Y.P) (hF : Filled Y F V 0 0) : (0 < Y.k ∧ 0 < Y.m) ∧ w.cell? ⟨Y.wb, 0, none⟩ = some (.slice (some ⟨Y.row 0, 0, none⟩) Y.m Y.m) ∧ w.cell? ⟨Y.row 0, 0, none⟩ = some (.int .i64 (F (subT Y.ar Y.t 0) (subT Y.ar Y.s 0) : Int)) := by
  have hk : 0 < Y.k := by rw [← h.s.len]; exact hP.ts.2.1.1
  have hm : 0 < Y.m := by rw [← h.t.len]; exact hP.tt.2.1.1
  refine ⟨⟨hk, hm⟩, h.wy 0 hk, ?_⟩
  rw [h.v 0 0 hk hm, hF 0 0 hP.ts.2.1.1 hP.tt.2.1.1 (by omega)]
end Go.Proofs.Ytibeelcnooelkaa
namespace Go.Proofs.Ytibeelcnooelkaa
open Go.RowKit
set_option linter.unusedSimpArgs false
set_option linter.unusedVariables false
theorem RI.head' {w : World} {A : Option Addr} {n : Nat} {xs : List Int} (h : RI w A n xs) (hn : 0 < n) : ∃ b o, A = some ⟨b, o, none⟩ := by
  obtain ⟨b, o, e, _⟩ := h.2 hn; exact ⟨b, o, e⟩
theorem l1Has_isN {v : Value} {t : List Int} {x : Int} {b : Bool} {w : World} (hb : decide (x ∈ t) = b) (h0 : RdI w v t) :
    Calls Try.prog 68 #[v, .int .i64 x] w fun e w' => e = .returned (.bool b) ∧ w' = w := by subst hb; exact q_l1Has h0
set_option maxRecDepth 100000 in
set_option maxHeartbeats 4000000 in
theorem c_l16Order {A : Option Addr} {n c : Nat} {xs : List Int} {b : Bool} {w : World} (hb : permOk xs = b) (h0 : RI w A n xs) (hc : n ≤ c ∧ c ≤ 9223372036854775807) :
    Calls Try.prog 67 #[.slice A n c] w fun e w' => e = .returned (.bool b) ∧ Ext w w' := by
  have hn := h0.le
  have HA := Lib.hid h0
  have HL := Lib.hid h0.len
  have HB := Lib.hid hb
  clear h0 hb
  go_enter Try.func67, Try.ntmps67
  go_wp2_with fail
  go_loopw [3] (fun i wr => ∃ k : Nat, i = .int .i64 k ∧ k ≤ n ∧ Hid (permTo xs k) ∧ Ext w wr) (fun i _ => n - (intOf i).toNat)
  case atStart => exact ⟨0, rfl, Nat.zero_le _, Lib.hid (permTo_zero xs), Ext.refl _⟩
  case round =>
    obtain ⟨k, rfl, hk, hp, hE⟩ := hrel
    by_cases hlt : k < n
    · obtain ⟨bb, o, x, rfl, hx, hcx⟩ := RI.at_ (RI.ext HA.out hE) hlt
      have HX := Lib.hid hx
      have HT := Lib.hid (RI.takeU (RI.ext HA.out hE) hk)
      have hki : (k : Int) < (n : Int) := by omega
      have hk0 : (0 : Int) ≤ (k : Int) := by omega
      have hkc : (k : Int) ≤ (c : Int) := by omega
      have hn1 : 1 ≤ (n : Int) := by omega
      clear hx
      by_cases hin : 0 ≤ x ∧ x ≤ (n : Int) - 1
      · by_cases hm : x ∈ xs.take k
        · have HM := Lib.hid (show decide (x ∈ xs.take k) = true by simpa using hm)
          have HF := Lib.hid (permOk_twice HX.out hm)
          have hbf : b = false := by rw [← HB.out]; exact HF.out
          subst hbf
          clear hm
          go_wp2_with fail
          go_quiet (first | (go_at_call 55; exact Calls.quiet_of_same (q_l1In_t hin)) | (go_at_call 68; exact Calls.quiet_of_same (l1Has_isN HM.out (RdI.mk HT.out))))
          go_wp2
          go_ret
          exact ⟨rfl, by exact extX⟩
        · have HM := Lib.hid (show decide (x ∈ xs.take k) = false by simpa using hm)
          have HN := Lib.hid (permTo_succ hp.out HX.out (by rw [HL.out]; omega) hm)
          clear hm
          go_wp2_with fail
          go_quiet (first | (go_at_call 55; exact Calls.quiet_of_same (q_l1In_t hin)) | (go_at_call 68; exact Calls.quiet_of_same (l1Has_isN HM.out (RdI.mk HT.out))))
          go_wp2
          go_roundw
          case rel => exact ⟨k + 1, by go_num, by omega, HN, by exact extX⟩
          case measure => simp only [intOf]; omega
      · have HF := Lib.hid (permOk_out HX.out (by rw [HL.out]; omega))
        have hbf : b = false := by rw [← HB.out]; exact HF.out
        subst hbf
        go_wp2_with fail
        go_quiet (first | (go_at_call 55; exact Calls.quiet_of_same (q_l1In_f hin)))
        go_wp2
        go_ret
        exact ⟨rfl, by exact extX⟩
    · have hkn : k = n := by omega
      subst hkn
      by_cases h8 : k ≤ 8
      · have hbt : b = true := by rw [← HB.out]; exact permOk_all (by rw [HL.out]; exact hp.out) (by rw [HL.out]; exact h8)
        subst hbt
        have h8i : (k : Int) ≤ 8 := by omega
        go_wp2
        go_ret
        exact ⟨ret_bool (by simp), hE⟩
      · have hbf : b = false := by rw [← HB.out]; exact permOk_big (by rw [HL.out]; omega)
        subst hbf
        have h8i : ¬ (k : Int) ≤ 8 := by omega
        go_wp2
        go_ret
        exact ⟨ret_bool (by simp), hE⟩
def NewNs (w : World) (xs : List Int) (e : Ending) (w' : World) : Prop := ∃ A n c, e = .returned (.tuple #[.slice A n c, .bool (nextB xs)]) ∧ (n ≤ c ∧ c ≤ 9223372036854775807) ∧ (n = 0 ∨ ∀ b o s, A = some ⟨b, o, s⟩ → w.heap.size ≤ b) ∧ RI w' A n (nextV xs) ∧ Ext w w'
theorem NewNs.bad {w w' : World} {A : Option Addr} {c : Nat} {xs : List Int} (h : nextB xs = false) (hE : Ext w w') (hc : c ≤ 9223372036854775807 := by first | decide | omega) : NewNs w xs (.returned (.tuple #[.slice A 0 c, .bool false])) w' :=
  ⟨_, 0, _, by rw [h], ⟨by omega, hc⟩, .inl rfl, by rw [nextB_perm h]; exact RI.nil _ _, hE⟩
set_option maxRecDepth 100000 in
set_option maxHeartbeats 8000000 in
theorem c_sNextRank {A : Option Addr} {n c : Nat} {xs : List Int} {w : World} (h0 : RI w A n xs) (hc : n ≤ c ∧ c ≤ 9223372036854775807) : Calls Try.prog 41 #[.slice A n c] w (NewNs w xs) := by
  have hn := h0.le
  have HA := Lib.hid h0
  have HL := Lib.hid h0.len
  obtain ⟨i0, hii, hiz, his, hib⟩ := info_parts int64_info
  clear h0
  cases hok : permOk xs with
  | false =>
    have HOK := Lib.hid hok
    have HBAD := Lib.hid (next_bad hok)
    clear hok
    go_enter Try.func41, Try.ntmps41
    go_wp2_with fail
    (with_reducible refine (c_l16Order HOK.out HA.out hc).mono ?_)
    rintro e w1 ⟨rfl, hE1⟩
    go_wp2
    refine bodyPost_ret (v := .tuple #[.slice (some ⟨w1.heap.size, 0, none⟩) 0 0, .bool false]) (by simp [results, Try.results41, go_sem]) rfl ?_
    exact NewNs.bad HBAD.out.2 (by exact extX)
  | true =>
    have hn8 : n ≤ 8 := by rw [← HL.out]; exact (permOk_iff.1 hok).2.2
    have HOK := Lib.hid hok
    clear hok
    go_enter Try.func41, Try.ntmps41
    go_wp2_with fail
    (with_reducible refine (c_l16Order HOK.out HA.out hc).mono ?_)
    rintro e w1 ⟨rfl, hE1⟩
    go_wp2_with fail
    go_loopw [4] (fun iv wr => ∃ (z : Int) (k : Nat), iv = .int .i64 z ∧ (z = (k : Int) - 1 ∨ z = -2 ∧ k = 0) ∧ k ≤ n - 1 ∧ Hid (upGo xs k = upAt xs ∧ fallsFrom xs k) ∧ Ext w wr) (fun iv _ => (intOf iv + 2).toNat)
    case atStart => exact ⟨(n : Int) - 2, n - 1, by go_num, by omega, by omega, Lib.hid ⟨by rw [← HL.out]; rfl, falls_last _ _ (by rw [HL.out]; omega)⟩, by exact extX⟩
    case round =>
      obtain ⟨z, k, rfl, hz, hk, hST, hE⟩ := hrel
      rcases Nat.eq_zero_or_pos k with hk0 | hk0
      · subst hk0
        have hzn : z < 0 := by omega
        have hzb : decide (0 ≤ z) = false := by simp; omega
        have HU := Lib.hid (next_none (xs := xs) hST.out.1.symm)
        go_wp2_with fail
        go_quiet (fail)
        go_wp2
        refine bodyPost_ret (v := .tuple #[.slice (some ⟨wr.heap.size, 0, none⟩) 0 0, .bool false]) (by simp [results, Try.results41, go_sem]) rfl ?_
        exact NewNs.bad HU.out.2 (by exact extX)
      · obtain ⟨p, rfl⟩ : ∃ p, k = p + 1 := ⟨k - 1, by omega⟩
        have hzp : z = (p : Int) := by omega
        subst hzp
        have hp1 : p + 1 < n := by omega
        obtain ⟨gb, ob, hA0⟩ := RI.head' HA.out (by omega)
        subst hA0
        obtain ⟨_, _, x, e1, hx, hcx⟩ := RI.at_ (RI.ext HA.out hE) (show p < n by omega)
        cases e1
        obtain ⟨_, _, y, e1, hy, hcy⟩ := RI.at_ (RI.ext HA.out hE) hp1
        cases e1
        have HX := Lib.hid hx
        have HY := Lib.hid hy
        have hpz : (0 : Int) ≤ (p : Int) := by omega
        have hpd : decide ((0 : Int) ≤ (p : Int)) = true := by simp
        have hpi : (p : Int) < (n : Int) := by omega
        have hpi1 : (p : Int) + 1 < (n : Int) := by omega
        have hwp : IntKind.i64.wrap ((p : Int) + 1) = (p : Int) + 1 := IntWalk.i64_in _ (by omega)
        clear hx hy
        by_cases hxy : y < x
        · have hd2 : decide (y < x) = true := by simpa using hxy
          have HN := Lib.hid (show upGo xs p = upAt xs ∧ fallsFrom xs p from ⟨by rw [← hST.out.1, upGo_go HX.out HY.out hxy], falls_down hST.out.2 HX.out HY.out hxy⟩)
          go_wp2_with fail
          go_quiet (fail)
          go_wp2
          go_roundw
          case rel => exact ⟨(p : Int) - 1, p, by go_num, by omega, by omega, HN, by exact extX⟩
          case measure => simp only [intOf]; omega
        · have hd2 : decide (y < x) = false := by simpa using hxy
          have HUP := Lib.hid (show upAt xs = some p by rw [← hST.out.1, upGo_stop HX.out HY.out hxy])
          go_wp2_with fail
          go_quiet (fail)
          obtain ⟨wq, hwq⟩ : ∃ wq, wq = wr.drewN nq := ⟨_, rfl⟩
          have hEq : Ext w wq := by rw [hwq]; exact hE.drewN _
          rw [← hwq]
          clear hwq
          obtain ⟨k0, a0, b0, hN⟩ := nextI HOK.out HUP.out
          have ha0 : x = a0 := by have := hN.ha; rw [HX.out] at this; exact Option.some.inj this
          subst ha0
          have HNX := Lib.hid hN.nx
          have HNV := Lib.hid (nextV_some HOK.out HUP.out hN)
          have HNB := Lib.hid (nextB_some HOK.out HUP.out)
          have hx0 : 0 ≤ x := ((permOk_iff.1 HOK.out).2.1 x (List.mem_of_getElem? HX.out)).1
          have HT := Lib.hid (RI.takeU (RI.ext HA.out hEq) (show p ≤ n by omega))
          have hpc : (p : Int) ≤ (c : Int) := by omega
          have hsq := sz_of hEq
          clear hN
          go_wp2_with (at_builtin; go_loud (refine wpList_append_new rfl (.tmp 35) (.tmp 38) 27 rfl i0 Try.underlying27 hii hiz his hib (D := w.heap.size) rfl (OwI.none0 hsq) rfl (RI.ext HT.out (by exact extX)) (by go_size) ?_))
          intro A2 c2 w2 hO2 hg2 hat2
          have HO2 := Lib.hid hO2
          have hE2 : Ext w w2 := Ext.grown (Ext.alloc hEq _) hg2 (fun k hk => by cases hk; exact hsq)
          clear hO2 hg2 hat2
          go_wp2_with fail
          go_loopw [6, 7] (fun mv iv wr => ∃ q : Nat, iv = .int .i64 q ∧ p + 1 ≤ q ∧ q ≤ n ∧ (∃ m, mv = .int .i64 m ∧ Hid (leastTo xs x p q m)) ∧ Ext w2 wr) (fun _ iv _ => n - (intOf iv).toNat)
          case atStart => exact ⟨p + 1, by go_num, by omega, by omega, ⟨-1, rfl, Lib.hid (leastTo_start xs x p)⟩, Ext.refl _⟩
          case round =>
            obtain ⟨q, rfl, hpq, hq, ⟨m, rfl, hm⟩, hE3⟩ := hrel
            obtain ⟨wo, rfl⟩ : ∃ wo : World, wo = wr := ⟨_, rfl⟩
            have hEw : Ext w wo := Ext.trans hE2 hE3
            by_cases hlt : q < n
            · obtain ⟨_, _, y2, e1, hy2, hcy2⟩ := RI.at_ (RI.ext HA.out hEw) hlt
              cases e1
              obtain ⟨_, _, x2, e1, hx2, hcx2⟩ := RI.at_ (RI.ext HA.out hEw) (show p < n by omega)
              cases e1
              rw [HX.out] at hx2; cases hx2
              have HY2 := Lib.hid hy2
              have hqi : (q : Int) < (n : Int) := by omega
              have hq0 : (0 : Int) ≤ (q : Int) := by omega
              clear hy2
              by_cases c1 : x < y2
              · have d1 : decide (x < y2) = true := by simpa using c1
                by_cases c2' : m < 0
                · have d2 : decide (m < 0) = true := by simpa using c2'
                  have HN := Lib.hid (leastTo_take hm.out (by omega) HY2.out ⟨c1, .inl c2'⟩ hx0)
                  go_wp2_with fail
                  go_quiet (fail)
                  go_wp2
                  go_roundw
                  case rel => exact ⟨q + 1, by go_num, by omega, by omega, ⟨_, rfl, HN⟩, by exact extX⟩
                  case measure => simp only [intOf]; omega
                · have d2 : decide (m < 0) = false := by simpa using c2'
                  by_cases c3 : y2 < m
                  · have d3 : decide (y2 < m) = true := by simpa using c3
                    have HN := Lib.hid (leastTo_take hm.out (by omega) HY2.out ⟨c1, .inr c3⟩ hx0)
                    go_wp2_with fail
                    go_quiet (fail)
                    go_wp2
                    go_roundw
                    case rel => exact ⟨q + 1, by go_num, by omega, by omega, ⟨_, rfl, HN⟩, by exact extX⟩
                    case measure => simp only [intOf]; omega
                  · have d3 : decide (y2 < m) = false := by simpa using c3
                    have HN := Lib.hid (leastTo_skip hm.out hx0 HY2.out (fun h => h.2.elim c2' c3))
                    go_wp2_with fail
                    go_quiet (fail)
                    go_wp2
                    go_roundw
                    case rel => exact ⟨q + 1, by go_num, by omega, by omega, ⟨_, rfl, HN⟩, by exact extX⟩
                    case measure => simp only [intOf]; omega
              · have d1 : decide (x < y2) = false := by simpa using c1
                have HN := Lib.hid (leastTo_skip hm.out hx0 HY2.out (fun h => c1 h.1))
                go_wp2_with fail
                go_quiet (fail)
                go_wp2
                go_roundw
                case rel => exact ⟨q + 1, by go_num, by omega, by omega, ⟨_, rfl, HN⟩, by exact extX⟩
                case measure => simp only [intOf]; omega
            · have hqn : q = n := by omega
              subst hqn
              have hmb : m = b0 := by
                have h1 := HNX.out
                have h2 : (xs.take p).length = p := by rw [List.length_take, HL.out]; omega
                exact leastTo_end h1 (by rw [h2, HL.out]; exact hm.out)
              subst hmb
              have HO3 := Lib.hid (HO2.out.ext hE3)
              go_wp2_with (at_builtin; go_loud (refine wpList_append_lies _ rfl (.tmp 73) (.tmp 75) 27 rfl w.heap.size 2 i0 (.int .i64 0) 1 8 Try.underlying27 hii hiz his hib rfl (by decide) _ _ _ rfl (OwI.alloc HO3.out _).2 ⟨wo.heap.size, 0, none⟩ 1 1 [.int .i64 m] rfl rfl (one_cells _ _ _) (one_one _) (by decide) (by unfold maxLen; omega) (by omega) (by have := sz_of hEw; go_size) _ rfl ?_))
              intro g4 cap4 w4 hown4 hg4 hat4 hltg4
              have HO4 := Lib.hid (show OwI w4 w.heap.size (some ⟨g4, 0, none⟩) (p + 1) cap4 (xs.take p ++ [m]) from ⟨by omega, by simpa using hown4⟩)
              have hob := OwI.ob2 HO3.out
              have hE4 : Ext w w4 := Ext.grown (hEw.alloc _) hg4 (fun b hb => (hob b hb).1)
              have hbl : (xs.take p ++ [m]).length ≤ 9 := by rw [List.length_append, List.length_take]; simp; omega
              clear hown4 hg4 hat4 hob
              go_wp2_with fail
              go_loopw [5, 8] (fun ov iv wr => ∃ k : Nat, iv = .int .i64 k ∧ k ≤ q ∧ (∃ A6 n6 c6, ov = .slice A6 n6 c6 ∧ n6 ≤ 9 + k ∧ Hid (OwI wr w.heap.size A6 n6 c6 (fillTo (xs.take p ++ [m]) k))) ∧ Ext w wr) (fun _ iv _ => q - (intOf iv).toNat)
              case atStart => exact ⟨0, rfl, Nat.zero_le _, ⟨_, _, _, rfl, by omega, Lib.hid (by rw [fillTo_zero]; exact HO4.out)⟩, hE4⟩
              case round =>
                obtain ⟨k, rfl, hk2, ⟨A6, n6, c6, rfl, hn6, hO6⟩, hE6⟩ := hrel
                by_cases hlt2 : k < q
                · have hki : (k : Int) < (q : Int) := by omega
                  by_cases hin : (k : Int) ∈ xs.take p ++ [m]
                  · have HM := Lib.hid (show decide ((k : Int) ∈ fillTo (xs.take p ++ [m]) k) = true by simp only [decide_eq_true_eq]; exact fillTo_mem.2 hin)
                    have HF := Lib.hid (fillTo_in hin)
                    clear hin
                    go_wp2_with fail
                    (with_reducible refine (l1Has_isN HM.out (RdI.mk hO6.out.ri)).mono ?_)
                    rintro e w7 ⟨rfl, rfl⟩
                    go_wp2
                    go_roundw
                    case rel => exact ⟨k + 1, by go_num, by omega, ⟨_, _, _, rfl, by omega, Lib.hid (by rw [HF.out]; exact hO6.out)⟩, hE6⟩
                    case measure => simp only [intOf]; omega
                  · have HM := Lib.hid (show decide ((k : Int) ∈ fillTo (xs.take p ++ [m]) k) = false by simp only [decide_eq_false_iff_not]; exact fun h => hin (fillTo_mem.1 h))
                    have HF := Lib.hid (fillTo_new hin)
                    clear hin
                    go_wp2_with fail
                    (with_reducible refine (l1Has_isN HM.out (RdI.mk hO6.out.ri)).mono ?_)
                    rintro e w7 ⟨rfl, hw7⟩
                    subst hw7
                    go_wp2_with (at_builtin; go_loud (refine wpList_append_lies _ rfl (.tmp 87) (.tmp 89) 27 rfl w.heap.size 2 i0 (.int .i64 0) 1 8 Try.underlying27 hii hiz his hib rfl (by decide) _ _ _ rfl (OwI.alloc hO6.out _).2 ⟨w7.heap.size, 0, none⟩ 1 1 [.int .i64 (k : Int)] rfl rfl (one_cells _ _ _) (one_one _) (by decide) (by unfold maxLen; omega) (by omega) (by have := sz_of hE6; go_size) _ rfl ?_))
                    intro g8 cap8 w8 hown8 hg8 hat8 hltg8
                    have HO8 := Lib.hid (show OwI w8 w.heap.size (some ⟨g8, 0, none⟩) (n6 + 1) cap8 (fillTo (xs.take p ++ [m]) (k + 1)) from ⟨by omega, by rw [HF.out]; simpa using hown8⟩)
                    have hob := OwI.ob2 hO6.out
                    have hE8 : Ext w w8 := Ext.grown (hE6.alloc _) hg8 (fun b hb => (hob b hb).1)
                    clear hown8 hg8 hat8 hob
                    go_wp2
                    go_roundw
                    case rel => exact ⟨k + 1, by go_num, by omega, ⟨_, _, _, rfl, by omega, HO8⟩, hE8⟩
                    case measure => simp only [intOf]; omega
                · have hkq : k = q := by omega
                  subst hkq
                  have HF := Lib.hid (show fillTo (xs.take p ++ [m]) k = nextV xs by rw [HNV.out, ← HL.out]; exact next_same HOK.out HNX.out)
                  go_wp2
                  refine bodyPost_ret (v := .tuple #[.slice A6 n6 c6, .bool true]) (by simp [results, Try.results41, go_sem]) rfl ?_
                  exact ⟨_, _, _, by rw [HNB.out], hO6.out.cap, .inr (fun b o s e => (hO6.out.bd b o s e).1), by rw [← HF.out]; exact hO6.out.ri, hE6⟩
end Go.Proofs.Ytibeelcnooelkaa
namespace Go.Proofs.Ytibeelcnooelkaa
def enc (w : Int) : Int := if 20000 < w then -1 else w
end Go.Proofs.Ytibeelcnooelkaa
namespace Go.Proofs.Ytibeelcnooelkaa
def up : List Int → List Int → List Int → List Int × Bool
  | x :: xs, l :: ls, h :: hs => match up xs ls hs with
    | (ys, true) => (x :: ys, true)
    | (ys, false) => if x < h then ((x + 1) :: ys, true) else (l :: ys, false)
  | _, _, _ => ([], false)
theorem least_ex {R : Nat → Prop} (h : ∃ k, R k) : ∃ k, R k ∧ ∀ j, j < k → ¬ R j := by
  obtain ⟨k, hk⟩ := h
  induction k using Nat.strongRecOn with
  | ind k ih =>
    by_cases hj : ∃ j, j < k ∧ R j
    · obtain ⟨j, h1, h2⟩ := hj; exact ih j h1 h2
    · exact ⟨k, hk, fun j h1 h2 => hj ⟨j, h1, h2⟩⟩
noncomputable def leastOf (R : Nat → Prop) : Nat := @Classical.epsilon Nat ⟨0⟩ fun k => R k ∧ ∀ j, j < k → ¬ R j
theorem leastOf_spec {R : Nat → Prop} (h : ∃ k, R k) : R (leastOf R) ∧ ∀ j, j < leastOf R → ¬ R j := Classical.epsilon_spec (p := fun k => R k ∧ ∀ j, j < k → ¬ R j) (least_ex h)
theorem leastOf_le {R : Nat → Prop} {k : Nat} (h : R k) : leastOf R ≤ k := by
  rcases Nat.lt_or_ge k (leastOf R) with h1 | h1
  · exact absurd h ((leastOf_spec ⟨k, h⟩).2 k h1)
  · exact h1
end Go.Proofs.Ytibeelcnooelkaa
namespace Go.Proofs.Ytibeelcnooelkaa
open Go.ChangeShapes Go.WideShapes Go.ChangeAt Go.RowKit Go.Joins Go.Deep
set_option linter.unusedSimpArgs false
set_option linter.unusedVariables false
section
variable {H : Type} {enc : TypeId × Value → H} {P : Program} {w : World} {base : Nat} {held : Bool}
theorem raw_ints {t e : TypeId} {fuel : Nat} {cs : List Value} {x : DataW H × List MemPlace} (ht : P.underlying t = some (.slice e)) (he : P.underlying e = some (.int .i64)) (hc : P.cellsOf e = 1)
    (h : DataW.trod enc P w base (fun _ => true) held fuel t cs = some x) : ∃ A n c xs, cs = [.slice A n c] ∧ RJ w A n xs := by
  rcases open_ints ht he hc h with ⟨hcs, _⟩ | ⟨a, len, cap, zs, hcs, _, hl, hm, hz, _, hcell, hwf⟩
  · exact ⟨none, 0, 0, [], hcs, ⟨rfl, by omega⟩, fun h => by omega, by simp⟩
  · simp only [if_true] at hz
    refine ⟨some a, len, cap, zs.take len, hcs, ⟨by rw [List.length_take]; omega, by unfold maxLen at hm; omega⟩, fun hn => ?_, fun x hx => ?_⟩
    · obtain ⟨b, o, spot⟩ := a
      have hspot : spot = none := by
        have := hcell 0 (by omega)
        simpa [Addr.add] using World.cell?_spot this
      subst hspot
      refine ⟨b, o, rfl, fun j x hx => ?_⟩
      have hj : j < len := by have := (List.getElem?_eq_some_iff.1 hx).1; rw [List.length_take] at this; omega
      have hcj := hcell j (by omega)
      rw [List.getElem?_take, if_pos hj] at hx
      rw [Addr.add_lit] at hcj
      rw [hcj, List.getD_eq_getElem?_getD, hx]
      rfl
    · have := hwf x (List.mem_of_mem_take hx)
      simp only [Lit.wf, IntKind.min, IntKind.max, IntKind.bits, IntKind.signed] at this
      simp at this
      omega
end
end Go.Proofs.Ytibeelcnooelkaa
namespace Go.Proofs.Ytibeelcnooelkaa
open Go.ChangeShapes Go.WideShapes Go.ChangeAt Go.RowKit Go.Joins Go.Deep
set_option linter.unusedSimpArgs false
set_option linter.unusedVariables false
set_option linter.constructorNameAsVariable false
theorem own : ownKnob Try.prog.godebug = none := by kernel_rfl
theorem laidOut : laidOutB Try.prog = true := by kernel_rfl
section
variable {H : Type} {enc : TypeId × Value → H} {w : World} {base b0 : Nat} {held : Bool} {r : Reach}
end
end Go.Proofs.Ytibeelcnooelkaa
namespace Go.Proofs.Ytibeelcnooelkaa
open Go.RowKit
set_option linter.unusedSimpArgs false
set_option linter.unusedVariables false
theorem OwI.freshP {w : World} (x : Int) : OwI (w.alloc (.cells #[.int .i64 x] 2)) w.heap.size (some ⟨w.heap.size, 0, none⟩) 1 1 [x] :=
  ⟨by simp, by simp, .inr ⟨w.heap.size, 1, _, rfl, Nat.le_refl _, heap_alloc_new w _, Nat.le_refl _, by unfold maxLen; omega, by simp, by simp⟩⟩
end Go.Proofs.Ytibeelcnooelkaa
namespace Go.Proofs.Ytibeelcnooelkaa
open Go.RowKit
set_option linter.unusedSimpArgs false
set_option linter.unusedVariables false
theorem fndAll_some {lex : Bool} {s : Sy} {x : List Int} : ∀ rs, fndAll lex s rs (some x) = some x
  | [] => rfl
  | _ :: rs => fndAll_some rs
def TO (lex : Bool) (s : Sy) (us : List Int) : Prop := orientsV lex s us = true
theorem fnd_gs {lex : Bool} {s : Sy} : ∀ (k : Nat) (us : List Int), fndAll lex s (lstR k us) none = gsR (TO lex s) (k + 1) us
  | 0, us => by
    show fndN lex s us none = _
    unfold gsR fndN
    by_cases h : orientsV lex s us = true
    · rw [if_pos h, if_pos (show TO lex s us from h)]
    · rw [if_neg h, if_neg (show ¬ TO lex s us from h)]
      by_cases hb : nextB us = true
      · rw [if_pos hb]; rfl
      · rw [if_neg hb]
  | k + 1, us => by
    show fndAll lex s (if nextB us = true then lstR k (nextV us) else []) (fndN lex s us none) = _
    unfold gsR
    by_cases h : orientsV lex s us = true
    · rw [if_pos (show TO lex s us from h), show fndN lex s us none = some us by simp [fndN, h]]
      exact fndAll_some _
    · rw [if_neg (show ¬ TO lex s us from h), show fndN lex s us none = none by simp [fndN, h]]
      by_cases hb : nextB us = true
      · rw [if_pos hb, if_pos hb]; exact fnd_gs k _
      · rw [if_neg hb, if_neg hb]; rfl
theorem ansF_gs {lex : Bool} {s : Sy} (h : sysOk s = true) : gsR (TO lex s) (muR (upI 0 s.ar.length) + 1) (upI 0 s.ar.length) = ansF lex s := by
  unfold ansF; rw [if_pos h]; exact (fnd_gs _ _).symm
theorem rank_of_perm {s : Sy} {us : List Int} (hs : SysP s) (hp : permOk us = true) (hl : us.length = s.ar.length) : rankOk s.ar us = true := by
  rw [rankOk_iff]
  exact ⟨hs.1, hl, fun i hi => (permOk_mem hp).2 ⟨by omega, by omega⟩⟩
theorem c_sSystemOkF {k0 : Bool} {v : Value} {s : Sy} {w : World} {b : Bool} (hb : sysOk s = b) (h0 : RdSyK k0 w v s) :
    Calls Try.prog 29 #[v] w fun e w' => e = .returned (.bool b) ∧ Ext w w' :=
  (c_sSystemOk h0).mono fun _ _ ⟨he, hw⟩ => ⟨he.trans (ret_bool hb), hw⟩
noncomputable def frMeas (T : List Int → Prop) (n0 : Nat) (o : Option (List Int)) (v mv : Value) (w : World) : Nat := match mv with
  | .bool true => leastOf (fun k => ∃ A n c rk, v = .slice A n c ∧ RI w A n rk ∧ rk.length = n0 ∧ OnG T o k rk) + 1
  | _ => 0
theorem frMeas_t {T : List Int → Prop} {n0 : Nat} {o : Option (List Int)} {v : Value} {w : World} : frMeas T n0 o v (.bool true) w = leastOf (fun k => ∃ A n c rk, v = .slice A n c ∧ RI w A n rk ∧ rk.length = n0 ∧ OnG T o k rk) + 1 := rfl
theorem frMeas_f {T : List Int → Prop} {n0 : Nat} {o : Option (List Int)} {v : Value} {w : World} : frMeas T n0 o v (.bool false) w = 0 := rfl
theorem upI_snoc (n : Nat) : ∀ a : Int, upI a (n + 1) = upI a n ++ [a + n] := by
  induction n with
  | zero => intro a; simp [upI]
  | succ n ih =>
    intro a
    show a :: upI (a + 1) (n + 1) = (a :: upI (a + 1) n) ++ [a + ((n + 1 : Nat) : Int)]
    rw [ih, List.cons_append]
    congr 3
    omega
set_option maxRecDepth 100000 in
set_option maxHeartbeats 2000000 in
theorem c_l16First {n : Nat} {w : World} (hn : n ≤ 1000) : Calls Try.prog 40 #[.int .i64 (n : Int)] w (NewI w (upI 0 n)) := by
  obtain ⟨i0, hii, hiz, his, hib⟩ := info_parts int64_info
  go_enter Try.func40, Try.ntmps40
  have HO0 := Lib.hid (OwI.none0 (w := w) (D := w.heap.size) (Nat.le_refl _))
  go_wp2_with fail
  go_loopw [3, 4] (fun ov iv wr => ∃ k : Nat, iv = .int .i64 k ∧ k ≤ n ∧ (∃ A c, ov = .slice A k c ∧ Hid (OwI wr w.heap.size A k c (upI 0 k))) ∧ Hid (Ext w wr)) (fun _ iv _ => n - (intOf iv).toNat)
  case atStart => exact ⟨0, rfl, Nat.zero_le _, ⟨_, 0, rfl, HO0⟩, Lib.hid ((Ext.refl w).alloc _)⟩
  case round =>
    obtain ⟨k, rfl, hk, ⟨A, c, rfl, hO⟩, hE⟩ := hrel
    by_cases hlt : k < n
    · have hki : (k : Int) < (n : Int) := by omega
      have hsr := hE.out.size
      have HF := Lib.hid (OwI.freshP (w := wr) (k : Int)).ri
      have hcp := hO.out.cap
      have hob := hO.out.ob2
      go_wp2_with (at_builtin; go_loud (refine wpList_append_ints rfl (.tmp 11) (.tmp 13) 27 rfl i0 Try.underlying27 hii hiz his hib (D := w.heap.size) rfl (OwI.alloc hO.out _) rfl (show RI (wr.alloc (.cells #[.int .i64 (k : Int)] 2)) (some ⟨wr.heap.size, 0, none⟩) 1 [(k : Int)] from HF.out) (by omega) (by simp only [World.size_alloc]; omega) hcp.1 ?_))
      intro A3 c3 w3 hO3 hg3 hat3
      have hE3 : Ext w w3 := Ext.grown (hE.out.alloc _) hg3 (fun b hb => (hob b hb).1)
      have HO3 := Lib.hid (show OwI w3 w.heap.size A3 (k + 1) c3 (upI 0 (k + 1)) from by
        rw [upI_snoc, Int.zero_add]; exact hO3)
      clear hO3 hg3 hat3 hob HF hcp
      go_wp2
      go_roundw
      case rel => exact ⟨k + 1, by go_num, by omega, ⟨_, _, rfl, HO3⟩, Lib.hid hE3⟩
      case measure => simp only [intOf]; omega
    · obtain rfl : k = n := by omega
      go_wp2
      go_ret
      exact ⟨A, k, c, rfl, hO.out, hE.out⟩
def SfOut (w : World) (o : Option (List Int)) (e : Ending) (w' : World) : Prop := ∃ A n c, e = .returned (.tuple #[.slice A n c, .bool o.isSome]) ∧ RI w' A n (o.getD []) ∧ Ext w w'
end Go.Proofs.Ytibeelcnooelkaa
