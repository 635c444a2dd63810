/- LpoGreatest of the program. -/
import Derived.Test.YtejmlbcafemieaaLpoI
import Derived.Test.YtejmlbcafemieaaSS
-- rd: RdSS
namespace Go.Proofs.Ytejmlbcafemieaa
open Go.RowKit
set_option linter.unusedSimpArgs false
set_option linter.unusedVariables false

/-- Where a test first holds, or -1. -/
def IdxS (p : List Int → Bool) (xss : List (List Int)) (r : Int) : Prop := (∃ (k : Nat) (x : List Int), r = k ∧ xss[k]? = some x ∧ p x = true) ∨ (r = -1 ∧ ∀ (j : Nat) (y : List Int), xss[j]? = some y → p y = false)
theorem IdxS.any {p : List Int → Bool} {xss : List (List Int)} {r : Int} (h : IdxS p xss r) : -1 ≤ r ∧ decide (0 ≤ r) = xss.any p := by
  rcases h with ⟨k, x, rfl, hx, hp⟩ | ⟨rfl, h⟩
  · refine ⟨by omega, ?_⟩
    rw [show xss.any p = true from List.any_eq_true.2 ⟨x, List.mem_of_getElem? hx, hp⟩]
    simp
  · refine ⟨by omega, ?_⟩
    rw [show xss.any p = false from List.any_eq_false.2 fun x hx => by
      obtain ⟨j, hj, e⟩ := List.mem_iff_getElem.1 hx
      rw [h j x (by rw [List.getElem?_eq_getElem hj, e])]; decide]
    rfl
def IdxSPost (p : List Int → Bool) (xss : List (List Int)) (w : World) (e : Ending) (w' : World) : Prop := ∃ r, e = .returned (.int .i64 r) ∧ IdxS p xss r ∧ Ext w w'
set_option maxRecDepth 100000 in
set_option maxHeartbeats 2000000 in
theorem c_indexFuncSS {A : Option Addr} {n c F : Nat} {xss : List (List Int)} {cap : Array Value} {w : World} {p : List Int → Bool} (he : ∀ (args : Array Value) (w : World), (callFunc F args).run Try.prog w = .ok (.enter F args) w) (hr : RS w A n xss)
    (hc : ∀ (xs : List Int) (v : Value), xs ∈ xss → ∀ wr, Ext w wr → RdIc wr v xs → Calls Try.prog F (#[v] ++ cap) wr fun e w' => e = .returned (.bool (p xs)) ∧ Ext wr w') :
    Calls Try.prog 105 #[.slice A n c, .func (.func F) #[] cap] w (IdxSPost p xss w) := by
  have hn := hr.1.2
  have HR := Lib.hid hr
  have HC := Lib.hid hc
  have HL := Lib.hid hr.1.1
  clear hr hc
  go_enter Try.func105, Try.ntmps105
  go_wp2_with fail
  go_loopw [8] (fun i wr => ∃ q : Nat, i = .int .i64 q ∧ q ≤ n ∧ Hid (∀ (j : Nat) (y : List Int), j < q → xss[j]? = some y → p y = false) ∧ Ext w wr) (fun i _ => n - (intOf i).toNat)
  case atStart => exact ⟨0, rfl, Nat.zero_le _, Lib.hid (fun j y hj => by omega), Ext.refl _⟩
  case round =>
    obtain ⟨q, rfl, hq, hno, hE⟩ := hrel
    by_cases hlt : q < n
    · obtain ⟨b, o, A1, m1, c1, x, rfl, hx, hcx, hcap, hri⟩ := RS.at2 (RS.ext HR.out hE) hlt
      have HX := Lib.hid hx
      have hq1 : (q : Int) < (n : Int) := by omega
      have hq0 : (0 : Int) ≤ (q : Int) := by omega
      have HCX := Lib.hid (HC.out x _ (List.mem_of_getElem? hx) wr hE (RdIc.mk hcap hri))
      clear hx hri
      cases hpx : p x with
      | true =>
        have HPX := Lib.hid hpx
        rw [hpx] at HCX
        clear hpx
        go_wp2_with fail
        (with_reducible refine HCX.out.mono ?_)
        rintro e w5 ⟨rfl, hE5⟩
        go_wp2
        go_ret
        exact ⟨(q : Int), rfl, .inl ⟨q, x, rfl, HX.out, HPX.out⟩, Ext.trans hE hE5⟩
      | false =>
        have HN := Lib.hid (show ∀ (j : Nat) (y : List Int), j < q + 1 → xss[j]? = some y → p y = false from fun j y hj hy => by
          rcases Nat.lt_or_ge j q with h | h
          · exact hno.out j y h hy
          · obtain rfl : j = q := by omega
            rw [HX.out] at hy; cases hy; exact hpx)
        rw [hpx] at HCX
        clear hpx
        go_wp2_with fail
        (with_reducible refine HCX.out.mono ?_)
        rintro e w5 ⟨rfl, hE5⟩
        go_wp2
        go_roundw
        case rel => exact ⟨q + 1, by go_num, by omega, HN, Ext.trans hE hE5⟩
        case measure => simp only [intOf]; omega
    · have hqn : q = n := by omega
      go_wp2
      go_ret
      exact ⟨-1, rfl, .inr ⟨rfl, fun j y hy => hno.out j y (by have := (List.getElem?_eq_some_iff.1 hy).1; rw [HL.out] at this; omega) hy⟩, hE⟩
set_option maxRecDepth 100000 in
set_option maxHeartbeats 1000000 in
theorem c_containsFuncSS {A : Option Addr} {n c F : Nat} {xss : List (List Int)} {cap : Array Value} {w : World} {p : List Int → Bool} {bb : Bool} (hb : xss.any p = bb) (he : ∀ (args : Array Value) (w : World), (callFunc F args).run Try.prog w = .ok (.enter F args) w) (hr : RS w A n xss)
    (hc : ∀ (xs : List Int) (v : Value), xs ∈ xss → ∀ wr, Ext w wr → RdIc wr v xs → Calls Try.prog F (#[v] ++ cap) wr fun e w' => e = .returned (.bool (p xs)) ∧ Ext wr w') :
    Calls Try.prog 54 #[.slice A n c, .func (.func F) #[] cap] w fun e w' => e = .returned (.bool bb) ∧ Ext w w' := by
  subst hb
  have HI := Lib.hid (c_indexFuncSS (c := c) he hr hc)
  clear hr hc
  go_enter Try.func54, Try.ntmps54
  go_wp2_with fail
  (with_reducible refine HI.out.mono ?_)
  rintro e w5 ⟨r, rfl, hI, hE5⟩
  have HA := Lib.hid hI.any.2
  clear hI
  go_wp2
  go_ret
  exact ⟨ret_bool (by rw [← HA.out]), hE5⟩
set_option maxRecDepth 100000 in
set_option maxHeartbeats 1000000 in
theorem c_lpoCl {v : Value} {ar rk t u : List Int} {h0 h1 h2 : Nat} {A B D : Option Addr} {n c m d k l : Nat} {w : World} (hok : lpoArgs ar rk t u = true) (hs : w.cell? ⟨h0, 0, none⟩ = some (.slice A n c)) (ha : RI w A n ar)
    (hr : w.cell? ⟨h1, 0, none⟩ = some (.slice B m d)) (hb : RI w B m rk) (ht : w.cell? ⟨h2, 0, none⟩ = some (.slice D k l)) (hkl : k ≤ l ∧ l ≤ 9223372036854775807) (hd : RI w D k t) (hu : RdIc w v u) :
    Calls Try.prog 55 (#[v] ++ #[.pointer (some ⟨h0, 0, none⟩), .pointer (some ⟨h1, 0, none⟩), .pointer (some ⟨h2, 0, none⟩)]) w fun e w' => e = .returned (.bool (decide (0 < lpoA ar rk true t u))) ∧ Ext w w' := by
  have HOK := Lib.hid hok
  have HA := Lib.hid ha
  have HB := Lib.hid hb
  have HD := Lib.hid hd
  have HU := Lib.hid hu
  have HKL := Lib.hid hkl
  obtain ⟨b, hbb⟩ : ∃ b, decide (0 < lpoA ar rk true t u) = b := ⟨_, rfl⟩
  have HBB := Lib.hid hbb
  rw [hbb]
  clear hok ha hb hd hu hkl hbb
  go_enter Try.func55, Try.ntmps55
  go_wp2_with fail
  (with_reducible refine (c_lpoLess HOK.out HBB.out (RdSig.mk HA.out) (RdI.mk HB.out) (RdIc.mk HKL.out HD.out) HU.out).mono ?_)
  rintro e w5 ⟨rfl, hE5⟩
  go_wp2
  go_ret
  exact ⟨rfl, hE5⟩
theorem c_rankOkB {v0 v1 : Value} {A : Option Addr} {n c : Nat} {ar rk : List Int} {ts : List (List Int)} {b : Bool} {w : World} (hb : (ts.all (termOk ar) && rankOk ar rk) = b) (h0 : RdSig w v0 ar) (h1 : RdI w v1 rk) (h2 : RS w A n ts) :
    Calls Try.prog 53 #[v0, v1, .slice A n c] w fun e w' => e = .returned (.bool b) ∧ Ext w w' := by subst hb; exact c_rankOk h0 h1 h2
theorem topAt_any (ar rk : List Int) (ts : List (List Int)) (t : List Int) : topAt ar rk ts t = !(ts.any fun u => decide (0 < lpoA ar rk true t u)) := by
  unfold topAt
  rw [Bool.eq_iff_iff]
  simp only [List.all_eq_true, decide_eq_true_eq, Bool.not_eq_true', List.any_eq_false]
  exact ⟨fun h u hu => by have := h u hu; omega, fun h u hu => by have := h u hu; omega⟩
theorem lpoMax_bad {ar rk : List Int} {ts : List (List Int)} (h : lpoMaxOk ar rk ts = false) : lpoMaxV ar rk ts = -1 := if_neg (by rw [h]; decide)
theorem lpoMax_ok {ar rk : List Int} {ts : List (List Int)} (h : lpoMaxOk ar rk ts = true) : lpoMaxV ar rk ts = lpoMaxGo ar rk ts ts 0 := if_pos h
theorem lpoMax_args {ar rk : List Int} {ts : List (List Int)} {t u : List Int} (h : lpoMaxOk ar rk ts = true) (ht : t ∈ ts) (hu : u ∈ ts) : lpoArgs ar rk t u = true := by
  unfold lpoMaxOk at h
  simp only [Bool.and_eq_true, List.all_eq_true] at h
  unfold lpoArgs
  rw [h.2.1 t ht, h.2.1 u hu, h.2.2]; rfl
set_option maxRecDepth 100000 in
set_option maxHeartbeats 4000000 in
theorem c_iLpoGreatest {v0 v1 v2 : Value} {ar rk : List Int} {ts : List (List Int)} {w : World} (h0 : RdSig w v0 ar) (h1 : RdI w v1 rk) (h2 : RdSc w v2 ts) :
    Calls Try.prog 15 #[v0, v1, v2] w fun e w' => e = .returned (.int .i64 (lpoMaxV ar rk ts)) ∧ Ext w w' := by
  obtain ⟨D, q, l, rfl, ha⟩ := h0
  obtain ⟨B, m, d, rfl, hb⟩ := h1
  obtain ⟨A, n, c, rfl, hnc, ht⟩ := h2
  have hn := ht.1.2
  have HL := Lib.hid ht.1.1
  have HA := Lib.hid ha
  have HB := Lib.hid hb
  have HT := Lib.hid ht
  clear ha hb ht
  have he1 : ∀ (args : Array Value) (w : World), (callFunc 55 args).run Try.prog w = .ok (.enter 55 args) w := enters_of Try.func55 (by kernel_rfl) rfl
  have HE1 := Lib.hid he1
  clear he1
  by_cases h12 : 12 < n
  · have HBAD := Lib.hid (lpoMax_bad (ar := ar) (rk := rk) (ts := ts) (by unfold lpoMaxOk; rw [show decide (ts.length ≤ 12) = false by rw [HL.out]; simp; omega]; rfl))
    have h12i : (12 : Int) < (n : Int) := by omega
    go_enter Try.func15, Try.ntmps15
    go_wp2
    go_ret
    exact ⟨ret_int HBAD.out.symm, by (repeat' (first | (with_reducible exact Ext.refl _) | (with_reducible assumption) | (with_reducible refine Ext.alloc ?_ _) | (with_reducible refine Ext.set ?_ ?_ _) | (with_reducible refine Ext.drewN ?_ _) | (with_reducible refine Ext.drew ?_) | (with_reducible refine Ext.trans ?_ (by with_reducible assumption)) | go_size))⟩
  · have h12i : ¬ (12 : Int) < (n : Int) := by omega
    obtain ⟨b, hb⟩ : ∃ b, (ts.all (termOk ar) && rankOk ar rk) = b := ⟨_, rfl⟩
    have HOK := Lib.hid (show lpoMaxOk ar rk ts = b by unfold lpoMaxOk; rw [show decide (ts.length ≤ 12) = true by rw [HL.out]; simp; omega, hb]; rfl)
    have HBB := Lib.hid hb
    clear hb
    go_enter Try.func15, Try.ntmps15
    go_wp2_with fail
    (with_reducible refine (c_rankOkB HBB.out (RdSig.mk (RI.ext HA.out (by (repeat' (first | (with_reducible exact Ext.refl _) | (with_reducible assumption) | (with_reducible refine Ext.alloc ?_ _) | (with_reducible refine Ext.set ?_ ?_ _) | (with_reducible refine Ext.drewN ?_ _) | (with_reducible refine Ext.drew ?_) | (with_reducible refine Ext.trans ?_ (by with_reducible assumption)) | go_size))))) (RdI.mk (RI.ext HB.out (by (repeat' (first | (with_reducible exact Ext.refl _) | (with_reducible assumption) | (with_reducible refine Ext.alloc ?_ _) | (with_reducible refine Ext.set ?_ ?_ _) | (with_reducible refine Ext.drewN ?_ _) | (with_reducible refine Ext.drew ?_) | (with_reducible refine Ext.trans ?_ (by with_reducible assumption)) | go_size))))) (RS.ext HT.out (by (repeat' (first | (with_reducible exact Ext.refl _) | (with_reducible assumption) | (with_reducible refine Ext.alloc ?_ _) | (with_reducible refine Ext.set ?_ ?_ _) | (with_reducible refine Ext.drewN ?_ _) | (with_reducible refine Ext.drew ?_) | (with_reducible refine Ext.trans ?_ (by with_reducible assumption)) | go_size))))).mono ?_)
    rintro e w1 ⟨rfl, hE1⟩
    have hs0 : w1.cell? ⟨w.heap.size, 0, none⟩ = some (.slice D q l) := Ext.keep hE1 (by simp [go_sem])
    have hs1 : w1.cell? ⟨w.heap.size + 1, 0, none⟩ = some (.slice B m d) := Ext.keep hE1 (by simp [go_sem])
    have hEw1 : Ext w w1 := by (repeat' (first | (with_reducible exact Ext.refl _) | (with_reducible assumption) | (with_reducible refine Ext.alloc ?_ _) | (with_reducible refine Ext.set ?_ ?_ _) | (with_reducible refine Ext.drewN ?_ _) | (with_reducible refine Ext.drew ?_) | (with_reducible refine Ext.trans ?_ (by with_reducible assumption)) | go_size))
    cases b with
    | false =>
      have HBAD := Lib.hid (lpoMax_bad HOK.out)
      go_wp2
      go_ret
      exact ⟨ret_int HBAD.out.symm, hEw1⟩
    | true =>
      have HGO := Lib.hid (lpoMax_ok HOK.out)
      go_wp2_with fail
      go_loopw [21] (fun i wr => ∃ k : Nat, i = .int .i64 k ∧ k ≤ n ∧ Hid (∀ (j : Nat) (u : List Int), j < k → ts[j]? = some u → topAt ar rk ts u = false) ∧ Ext w1 wr) (fun i _ => n - (intOf i).toNat)
      case atStart => exact ⟨0, rfl, Nat.zero_le _, Lib.hid (fun j y hj => by omega), Ext.refl _⟩
      case round =>
        obtain ⟨k, rfl, hk, hno, hE⟩ := hrel
        have hEw : Ext w wr := Ext.trans hEw1 hE
        by_cases hlt : k < n
        · obtain ⟨b8, o8, A1, m1, c1, t, rfl, hx, hcx, hcap, hri⟩ := RS.at2 (RS.ext HT.out hEw) hlt
          have HX := Lib.hid hx
          have HR := Lib.hid hri
          have hk1 : (k : Int) < (n : Int) := by omega
          have hk0 : (0 : Int) ≤ (k : Int) := by omega
          have hz0 := Ext.keep hE hs0
          have hz1 := Ext.keep hE hs1
          clear hx hri
          obtain ⟨tb, htb⟩ : ∃ tb, topAt ar rk ts t = tb := ⟨_, rfl⟩
          have HTB := Lib.hid (show (ts.any fun u => decide (0 < lpoA ar rk true t u)) = !tb by rw [← htb, topAt_any]; simp)
          have HTT := Lib.hid htb
          clear htb
          go_wp2_with fail
          obtain ⟨wq, hwq⟩ : ∃ wq, wq = wr.alloc (.cells #[.slice A1 m1 c1] 22) := ⟨_, rfl⟩
          have hEq : Ext wr wq := by rw [hwq]; (repeat' (first | (with_reducible exact Ext.refl _) | (with_reducible assumption) | (with_reducible refine Ext.alloc ?_ _) | (with_reducible refine Ext.set ?_ ?_ _) | (with_reducible refine Ext.drewN ?_ _) | (with_reducible refine Ext.drew ?_) | (with_reducible refine Ext.trans ?_ (by with_reducible assumption)) | go_size))
          have h2q : wq.cell? ⟨wr.heap.size, 0, none⟩ = some (.slice A1 m1 c1) := by rw [hwq]; simp [go_sem]
          rw [← hwq]
          clear hwq
          have hz0q := Ext.keep hEq hz0
          have hz1q := Ext.keep hEq hz1
          have hEwq : Ext w wq := Ext.trans hEw hEq
          (with_reducible refine (c_containsFuncSS (p := fun u => decide (0 < lpoA ar rk true t u)) HTB.out HE1.out (RS.ext HT.out hEwq) (fun u v hu wr' hE' hv => c_lpoCl (lpoMax_args HOK.out (List.mem_of_getElem? HX.out) hu) (Ext.keep hE' hz0q) (RI.ext HA.out (Ext.trans hEwq hE')) (Ext.keep hE' hz1q) (RI.ext HB.out (Ext.trans hEwq hE')) (Ext.keep hE' h2q) hcap (RI.ext HR.out (Ext.trans hEq hE')) hv)).mono ?_)
          rintro e w5 ⟨rfl, hE5⟩
          have hE15 : Ext w1 w5 := Ext.trans (Ext.trans hE hEq) hE5
          cases tb with
          | true =>
            have HRES := Lib.hid (show lpoMaxV ar rk ts = (k : Int) by rw [HGO.out, lpoMaxGo_at HX.out HTT.out hno.out]; congr 1; omega)
            go_wp2
            go_ret
            exact ⟨ret_int HRES.out.symm, Ext.trans hEw1 hE15⟩
          | false =>
            have HN := Lib.hid (show ∀ (j : Nat) (u : List Int), j < k + 1 → ts[j]? = some u → topAt ar rk ts u = false from fun j y hj hy => by
              rcases Nat.lt_or_ge j k with h | h
              · exact hno.out j y h hy
              · obtain rfl : j = k := by omega
                rw [HX.out] at hy; cases hy; exact HTT.out)
            go_wp2
            go_roundw
            case rel => exact ⟨k + 1, by go_num, by omega, HN, hE15⟩
            case measure => simp only [intOf]; omega
        · have hkn : k = n := by omega
          have HRES := Lib.hid (show lpoMaxV ar rk ts = -1 by rw [HGO.out]; exact lpoMaxGo_none fun j u hu => hno.out j u (by have := (List.getElem?_eq_some_iff.1 hu).1; rw [HL.out] at this; omega) hu)
          go_wp2
          go_ret
          exact ⟨ret_int HRES.out.symm, hEw⟩

end Go.Proofs.Ytejmlbcafemieaa
