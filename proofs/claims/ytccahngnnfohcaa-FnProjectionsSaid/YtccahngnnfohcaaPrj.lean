/- Several texts in one: PrjA, PrjB, PrjC, PrjD. -/
import Derived.Test.YtccahngnnfohcaaPairL
import Derived.Test.YtccahngnnfohcaaParts
import Derived.Test.YtccahngnnfohcaaProj
import Derived.Lib.SliceRun
-- rd: RdSyK RdDp RdDq
namespace Go.Proofs.Ytccahngnnfohcaa
open Go.RowKit
set_option linter.unusedSimpArgs false
set_option linter.unusedVariables false

/-! Projections: plain, and sets of pairs. -/
/-- What begins at a place of a right term is one. -/
theorem term_sub {ar t rest : List Int} {p : Nat} {u : Tm} (h : TermP ar t) (hu : u.Ok ar) (hd : t.drop p = u.flat ++ rest) : TermP ar u.flat := by
  obtain ⟨h1, h2, h3, h4⟩ := h
  have hl := congrArg List.length hd
  rw [List.length_drop, List.length_append] at hl
  have hmem : ∀ x ∈ u.flat, x ∈ t := fun x hx => List.mem_of_mem_drop (i := p) (by rw [hd]; exact List.mem_append_left _ hx)
  have hs := scan_flat u hu [] 0
  rw [List.append_nil, scan_zero] at hs
  exact ⟨h1, ⟨flat_pos u, by omega⟩, fun x hx => h3 x (hmem x hx), by rw [hs]; simp⟩
/-- What is known of the pairs of a system. -/
def PairP (ar : List Int) (q : DepP) : Prop := (TermP ar q.l ∧ ∀ x, q.l[0]? = some x → 0 ≤ x) ∧ TermP ar q.r ∧ ∀ x, q.r[0]? = some x → 0 ≤ x
theorem dep_ok {s : Sy} {r : Ru} {k a : Nat} {x : Int} {q : DepP} (hs : SysP s) (hr : s.rs[k]? = some r) (hx : r.r[a]? = some x) (h : depOf s r k a x = some q) : PairP s.ar q := by
  have hrp := hs.2.2 k r hr
  unfold depOf at h
  by_cases h1 : x < 0
  · rw [if_pos h1] at h; cases h
  rw [if_neg h1] at h
  by_cases h2 : dfd s x = false
  · rw [if_pos h2] at h; cases h
  rw [if_neg h2] at h
  by_cases h3 : has s.ar r.l (subT s.ar r.r a).flat = true
  · rw [if_pos h3] at h; cases h
  rw [if_neg h3] at h
  cases h
  have hal := (List.getElem?_eq_some_iff.1 hx).1
  obtain ⟨hok, rest, hdr⟩ := subT_ok hrp.2.1 hal
  refine ⟨⟨hrp.1, hrp.2.2.1⟩, term_sub hrp.2.1 hok hdr, fun y hy => ?_⟩
  have e : r.r[a]? = some y := by
    have h5 : (r.r.drop a)[0]? = some y := by rw [hdr, List.getElem?_append_left (flat_pos _)]; exact hy
    rwa [List.getElem?_drop, Nat.add_zero] at h5
  rw [hx] at e; cases e; omega
theorem prR_ok {s : Sy} {r : Ru} {k : Nat} (hs : SysP s) (hr : s.rs[k]? = some r) : ∀ a, ∀ q ∈ prR s r k a, PairP s.ar q
  | 0, q, h => by cases h
  | a + 1, q, h => by
    cases hx : r.r[a]? with
    | none =>
      have e : prR s r k (a + 1) = prR s r k a := by show prR s r k a ++ _ = _; rw [hx]; simp
      rw [e] at h; exact prR_ok hs hr a q h
    | some x =>
      cases hd : depOf s r k a x with
      | none => rw [prR_none hx hd] at h; exact prR_ok hs hr a q h
      | some q' =>
        rw [prR_some hx hd] at h
        rcases List.mem_append.1 h with h | h
        · exact prR_ok hs hr a q h
        · simp at h; subst h; exact dep_ok hs hr hx hd
theorem prS_ok {s : Sy} (hs : SysP s) : ∀ k, ∀ q ∈ prS s k, PairP s.ar q
  | 0, q, h => by cases h
  | k + 1, q, h => by
    cases hr : s.rs[k]? with
    | none =>
      have e : prS s (k + 1) = prS s k := by show prS s k ++ _ = _; rw [hr]; simp
      rw [e] at h; exact prS_ok hs k q h
    | some r =>
      rw [prS_succ hr] at h
      rcases List.mem_append.1 h with h | h
      · exact prS_ok hs k q h
      · exact prR_ok hs hr _ q h
theorem prB_sys {s : Sy} (h : prB s = true) : SysP s := by
  unfold prB at h; simp at h; exact sysOk_iff.1 h.1
theorem prV_all {s : Sy} (h : prB s = true) : prV s = prAll s := by
  have h1 := h
  unfold prB at h; simp at h
  unfold prV
  rw [if_pos h.1, if_neg (by omega)]
theorem prV_ok {s : Sy} (h : prB s = true) : ∀ q ∈ prV s, PairP s.ar q := fun q hq => by
  rw [prV_all h] at hq; exact prS_ok (prB_sys h) _ q hq
theorem prV_le {s : Sy} (h : prB s = true) : (prV s).length ≤ 64 := by
  rw [prV_all h]; unfold prB at h; simp at h; exact h.2
/-- A set of numbers below a bound: rising. -/
def SetP (n : Nat) (xs : List Int) : Prop := ∀ (i : Nat) (x : Int), xs[i]? = some x → (0 ≤ x ∧ x < n) ∧ ∀ y, 0 < i → xs[i - 1]? = some y → y < x
noncomputable def setB (n : Nat) (xs : List Int) : Bool := @decide (SetP n xs) (Classical.propDecidable _)
theorem setB_t {n : Nat} {xs : List Int} (h : SetP n xs) : setB n xs = true := by simp only [setB, decide_eq_true_eq]; exact h
theorem setB_f {n : Nat} {xs : List Int} (h : ¬ SetP n xs) : setB n xs = false := by simp only [setB, decide_eq_false_iff_not]; exact h
theorem setB_iff {n : Nat} {xs : List Int} : setB n xs = true ↔ SetP n xs := by simp only [setB, decide_eq_true_eq]
theorem setB_out {n i : Nat} {xs : List Int} {x : Int} (hx : xs[i]? = some x) (h : ¬ (0 ≤ x ∧ x < n)) : setB n xs = false := setB_f fun a => h (a i x hx).1
theorem setB_low {n i : Nat} {xs : List Int} {x y : Int} (hx : xs[i]? = some x) (hi : 0 < i) (hy : xs[i - 1]? = some y) (h : x ≤ y) : setB n xs = false := setB_f fun a => by have := (a i x hx).2 y hi hy; omega
/-- So far it is one. -/
def SetTo (n k : Nat) (xs : List Int) : Prop := ∀ (i : Nat) (x : Int), i < k → xs[i]? = some x → (0 ≤ x ∧ x < n) ∧ ∀ y, 0 < i → xs[i - 1]? = some y → y < x
theorem SetTo.succ {n k : Nat} {xs : List Int} {x : Int} (h : SetTo n k xs) (hx : xs[k]? = some x) (h1 : 0 ≤ x ∧ x < n) (h2 : ∀ y, 0 < k → xs[k - 1]? = some y → y < x) : SetTo n (k + 1) xs := fun i y hi hy => by
  rcases Nat.lt_or_ge i k with h3 | h3
  · exact h i y h3 hy
  · obtain rfl : i = k := by omega
    rw [hx] at hy; cases hy; exact ⟨h1, h2⟩
theorem SetTo.all {n : Nat} {xs : List Int} (h : SetTo n xs.length xs) : setB n xs = true := setB_t fun i x hx => h i x (List.getElem?_eq_some_iff.1 hx).1 hx
/-- The argument that a projection selects. -/
noncomputable def argO (ar pj t : List Int) : Option (List Int) := match t[0]? with
  | none => none
  | some f => match pj[f.toNat]? with
    | none => none
    | some i => if i < 0 then none else match tmOf ar t with
      | .node _ us => (us[i.toNat]?).map Tm.flat
theorem arg_at {ar pj t : List Int} (hp : ProjP ar pj) (ht : TermP ar t) (h0 : ∀ x, t[0]? = some x → 0 ≤ x) :
    ∃ (f : Nat) (us : List Tm) (i : Int), t = (Tm.node f us).flat ∧ (Tm.node (f : Int) us).Ok ar ∧ t[0]? = some (f : Int) ∧ pj[f]? = some i ∧ (i < 0 → argO ar pj t = none) ∧ (0 ≤ i → ∃ a, us[i.toNat]? = some a ∧ argO ar pj t = some a.flat ∧ a.Ok ar ∧ TermP ar a.flat) := by
  obtain ⟨hok, hfl⟩ := tmOf_ok ht
  cases htm : tmOf ar t with
  | node f us =>
    rw [htm] at hok hfl
    rw [flat_node] at hfl
    have ht0 : t[0]? = some f := by rw [← hfl]; rfl
    have hf := h0 f ht0
    obtain ⟨k, rfl⟩ := Int.eq_ofNat_of_zero_le hf
    obtain ⟨h1, h2⟩ := Ok_node.1 hok
    have hlt : (k : Int) < ar.length := arI_lt h1
    have hkl : k < pj.length := by rw [hp.2.1]; omega
    have hka : k < ar.length := by omega
    have hpi : pj[k]? = some pj[k] := List.getElem?_eq_getElem hkl
    have hai : ar[k]? = some ar[k] := List.getElem?_eq_getElem hka
    have hbd := hp.2.2 k _ _ hpi hai
    have hul : us.length = ar[k].toNat := by
      unfold arI at h1
      rw [if_neg (by omega), if_pos hlt, Int.toNat_natCast, List.getD_eq_getElem?_getD, hai] at h1
      simp at h1; omega
    refine ⟨k, us, pj[k], by rw [flat_node]; exact hfl.symm, hok, ht0, hpi, fun hneg => ?_, fun hpos => ?_⟩
    · unfold argO; rw [ht0]; simp only; rw [Int.toNat_natCast, hpi]; simp only; rw [if_pos hneg]
    · have hi : pj[k].toNat < us.length := by omega
      have hu := List.getElem?_eq_getElem hi
      have haok : us[pj[k].toNat].Ok ar := OkL_iff.1 h2 _ (List.getElem_mem hi)
      refine ⟨_, hu, ?_, haok, ?_⟩
      · unfold argO; rw [ht0]; simp only; rw [Int.toNat_natCast, hpi]; simp only; rw [if_neg (by omega), htm]; simp only; rw [hu]; rfl
      · exact term_sub ht haok (drop_arg (p := 0) (rest := []) (by rw [List.drop_zero, List.append_nil, flat_node]; exact hfl.symm) hu)
/-- It is the term or a part of it. -/
noncomputable def has0 (ar t u : List Int) : Bool := (t == u) || has ar t u
/-- What a projection says of a pair: nothing, or whether it goes. -/
noncomputable def prjSt (ar pj : List Int) (q : DepP) : Option Bool := match argO ar pj q.l, argO ar pj q.r with
  | some l, some r => if has0 ar l r = true then some (has ar l r) else none
  | _, _ => none
noncomputable def prjGo (ar pj : List Int) (ps : List DepP) : List Int → List Int → Option (List Int)
  | [], out => some out
  | n :: ns, out => match ps[n.toNat]? with
    | none => none
    | some q => match prjSt ar pj q with
      | none => none
      | some true => prjGo ar pj ps ns (out ++ [n])
      | some false => prjGo ar pj ps ns out
noncomputable def prjV (s : Sy) (set pj : List Int) : Option (List Int) := if prB s = true ∧ setB (prV s).length set = true ∧ projOk s.ar pj = true then prjGo s.ar pj (prV s) set [] else none
section
variable {ar pj set out : List Int} {ps : List DepP} {k : Nat} {n : Nat} {q : DepP}
theorem prjSt_l (h : argO ar pj q.l = none) : prjSt ar pj q = none := by unfold prjSt; rw [h]
theorem prjSt_r (h : argO ar pj q.r = none) : prjSt ar pj q = none := by unfold prjSt; rw [h]; cases argO ar pj q.l <;> rfl
theorem prjSt_n {l r : List Int} (hl : argO ar pj q.l = some l) (hr : argO ar pj q.r = some r) (h : has0 ar l r = false) : prjSt ar pj q = none := by unfold prjSt; rw [hl, hr]; simp [h]
theorem prjSt_s {l r : List Int} {b : Bool} (hl : argO ar pj q.l = some l) (hr : argO ar pj q.r = some r) (h : has0 ar l r = true) (hb : has ar l r = b) : prjSt ar pj q = some b := by unfold prjSt; rw [hl, hr]; simp [h, hb]
theorem prjGo_none (hs : set[k]? = some (n : Int)) (hq : ps[n]? = some q) (h : prjSt ar pj q = none) : prjGo ar pj ps (set.drop k) out = none := by
  obtain ⟨hl, e⟩ := List.getElem?_eq_some_iff.1 hs
  rw [List.drop_eq_getElem_cons hl, e, prjGo, Int.toNat_natCast, hq]; simp only; rw [h]
theorem prjGo_go (hs : set[k]? = some (n : Int)) (hq : ps[n]? = some q) (h : prjSt ar pj q = some true) : prjGo ar pj ps (set.drop k) out = prjGo ar pj ps (set.drop (k + 1)) (out ++ [(n : Int)]) := by
  obtain ⟨hl, e⟩ := List.getElem?_eq_some_iff.1 hs
  rw [List.drop_eq_getElem_cons hl, e, prjGo, Int.toNat_natCast, hq]; simp only; rw [h]
theorem prjGo_stay (hs : set[k]? = some (n : Int)) (hq : ps[n]? = some q) (h : prjSt ar pj q = some false) : prjGo ar pj ps (set.drop k) out = prjGo ar pj ps (set.drop (k + 1)) out := by
  obtain ⟨hl, e⟩ := List.getElem?_eq_some_iff.1 hs
  rw [List.drop_eq_getElem_cons hl, e, prjGo, Int.toNat_natCast, hq]; simp only; rw [h]
theorem prjGo_end (hk : set.length ≤ k) : prjGo ar pj ps (set.drop k) out = some out := by
  rw [List.drop_of_length_le hk]; rfl
end
theorem prjV_no1 {s : Sy} {set pj : List Int} (h : prB s = false) : prjV s set pj = none := by unfold prjV; rw [if_neg (by rw [h]; simp)]
theorem prjV_no2 {s : Sy} {set pj : List Int} (h : setB (prV s).length set = false) : prjV s set pj = none := by unfold prjV; rw [if_neg (by rw [h]; simp)]
theorem prjV_no3 {s : Sy} {set pj : List Int} (h : projOk s.ar pj = false) : prjV s set pj = none := by unfold prjV; rw [if_neg (by rw [h]; simp)]
theorem prjV_yes {s : Sy} {set pj : List Int} (h1 : prB s = true) (h2 : setB (prV s).length set = true) (h3 : projOk s.ar pj = true) : prjV s set pj = prjGo s.ar pj (prV s) set [] := by unfold prjV; rw [if_pos ⟨h1, h2, h3⟩]
set_option maxHeartbeats 1000000 in
theorem c_setOk {v0 : Value} {xs : List Int} {m : Nat} {b : Bool} {w : World} (hb : setB m xs = b) (h0 : RdI w v0 xs) (hm : m ≤ 4194304) :
    Calls Try.prog 54 #[v0, .int .i64 (m : Int)] w fun e w' => e = .returned (.bool b) ∧ Ext w w' := by
  subst hb
  obtain ⟨A, n, c, rfl, ha⟩ := h0
  have hn := ha.le
  have hl := ha.len
  have HA := Lib.hid ha
  clear ha
  go_enter Try.func54, Try.ntmps54
  go_wp2
  go_loopw [9] (fun i wr => ∃ k : Nat, i = .int .i64 k ∧ k ≤ n ∧ Hid (SetTo m k xs) ∧ Ext w wr) (fun i _ => n - (intOf i).toNat)
  case atStart => exact ⟨0, rfl, Nat.zero_le _, Lib.hid fun i x hi => by omega, Ext.refl _⟩
  case round =>
    obtain ⟨k, rfl, hk, hT, hE⟩ := hrel
    by_cases hlt : k < n
    · obtain ⟨b, o, x, rfl, hx, hcx⟩ := RI.at_ (RI.ext HA.out hE) hlt
      have HX := Lib.hid hx
      have hki : (k : Int) < (n : Int) := by omega
      have hk0 : (0 : Int) ≤ (k : Int) := by omega
      clear hx
      by_cases hx0 : x < 0
      · have HR := Lib.hid (setB_out HX.out (show ¬ (0 ≤ x ∧ x < (m : Int)) by omega))
        go_wp2
        go_ret
        exact ⟨ret_bool HR.out.symm, hE⟩
      · by_cases hxm : x ≥ (m : Int)
        · have HR := Lib.hid (setB_out HX.out (show ¬ (0 ≤ x ∧ x < (m : Int)) by omega))
          go_wp2
          go_ret
          exact ⟨ret_bool HR.out.symm, hE⟩
        · by_cases hkz : k = 0
          · subst hkz
            have HN := Lib.hid (SetTo.succ hT.out HX.out ⟨by omega, by omega⟩ fun y h => by omega)
            have hcx' : wr.cell? ⟨b, o, none⟩ = some (.int .i64 x) := by simpa using hcx
            go_wp2
            go_roundw
            case rel => exact ⟨1, by go_num, by omega, HN, hE⟩
            case measure => simp only [intOf]; omega
          · obtain ⟨b', o', y, e, hy, hcy⟩ := RI.at_ (RI.ext HA.out hE) (show k - 1 < n by omega)
            cases e
            have HY := Lib.hid hy
            clear hy
            have hkp : (k : Int) > 0 := by omega
            have hkq : 0 < k := by omega
            have hk1 : (k : Int) - 1 = ((k - 1 : Nat) : Int) := by omega
            have hw1 : IntKind.i64.wrap ((k : Int) - 1) = ((k - 1 : Nat) : Int) := by rw [IntWalk.i64_in _ (by omega)]; omega
            have hk1i : ((k - 1 : Nat) : Int) < (n : Int) := by omega
            have hk10 : (0 : Int) ≤ ((k - 1 : Nat) : Int) := by omega
            by_cases hxy : x ≤ y
            · have HR := Lib.hid (setB_low (n := m) HX.out (by omega) HY.out hxy)
              go_wp2
              go_ret
              exact ⟨ret_bool HR.out.symm, hE⟩
            · have HN := Lib.hid (SetTo.succ hT.out HX.out ⟨by omega, by omega⟩ fun y' _ hy' => by rw [HY.out] at hy'; cases hy'; omega)
              go_wp2
              go_roundw
              case rel => exact ⟨k + 1, by go_num, by omega, HN, hE⟩
              case measure => simp only [intOf]; omega
    · have hkn : k = n := by omega
      have HR := Lib.hid (SetTo.all (n := m) (xs := xs) (by rw [hl, ← hkn]; exact hT.out))
      go_wp2
      go_ret
      exact ⟨ret_bool HR.out.symm, hE⟩
set_option maxHeartbeats 1000000 in
theorem c_l18Set {v0 : Value} {xs : List Int} {m : Nat} {b : Bool} {w : World} (hb : setB m xs = b) (h0 : RdI w v0 xs) (hm : m ≤ 4194304) :
    Calls Try.prog 49 #[v0, .int .i64 (m : Int)] w fun e w' => e = .returned (.bool b) ∧ Ext w w' := by
  subst hb
  obtain ⟨A, n, c, rfl, ha⟩ := h0
  have hn := ha.le
  have hl := ha.len
  have HA := Lib.hid ha
  clear ha
  go_enter Try.func49, Try.ntmps49
  go_wp2
  go_loopw [5, 6] (fun lv i wr => ∃ k : Nat, i = .int .i64 k ∧ k ≤ n ∧ (∃ z : Int, lv = .int .i64 z ∧ (-1 ≤ z ∧ z < 4194304) ∧ Hid (SetTo m k xs ∧ (k = 0 → z = -1) ∧ (0 < k → xs[k - 1]? = some z))) ∧ Ext w wr) (fun _ i _ => n - (intOf i).toNat)
  case atStart => exact ⟨0, rfl, Nat.zero_le _, ⟨-1, rfl, by omega, Lib.hid ⟨fun i x hi => by omega, fun _ => rfl, fun h => by omega⟩⟩, Ext.refl _⟩
  case round =>
    obtain ⟨k, rfl, hk, ⟨z, rfl, hz, hT⟩, hE⟩ := hrel
    by_cases hlt : k < n
    · obtain ⟨b, o, x, rfl, hx, hcx⟩ := RI.at_ (RI.ext HA.out hE) hlt
      have HX := Lib.hid hx
      have hki : (k : Int) < (n : Int) := by omega
      have hk0 : (0 : Int) ≤ (k : Int) := by omega
      have hw1 : IntKind.i64.wrap (z + 1) = z + 1 := IntWalk.i64_in _ (by omega)
      have hw2 : IntKind.i64.wrap ((m : Int) - 1) = (m : Int) - 1 := IntWalk.i64_in _ (by omega)
      clear hx
      by_cases hin : z + 1 ≤ x ∧ x ≤ (m : Int) - 1
      · have HN := Lib.hid (SetTo.succ hT.out.1 HX.out ⟨by omega, by omega⟩ fun y h1 hy => by rw [hT.out.2.2 h1] at hy; cases hy; omega)
        go_wp2_with fail
        (with_reducible refine (c_l1In_t hin).mono ?_)
        rintro e2 w2 ⟨rfl, hE2⟩
        have hcx2 := Ext.keep hE2 hcx
        have hE3 := Ext.trans hE hE2
        go_wp2
        go_roundw
        case rel => exact ⟨k + 1, by go_num, by omega, ⟨x, rfl, by omega, Lib.hid ⟨HN.out, fun h => by omega, fun _ => by rw [Nat.add_sub_cancel]; exact HX.out⟩⟩, hE3⟩
        case measure => simp only [intOf]; omega
      · have HR := Lib.hid (show setB m xs = false by
          by_cases h1 : 0 ≤ x ∧ x < (m : Int)
          · by_cases hkz : k = 0
            · have := hT.out.2.1 hkz; omega
            · exact setB_low HX.out (by omega) (hT.out.2.2 (by omega)) (by omega)
          · exact setB_out HX.out h1)
        go_wp2_with fail
        (with_reducible refine (c_l1In_f hin).mono ?_)
        rintro e2 w2 ⟨rfl, hE2⟩
        have hE3 := Ext.trans hE hE2
        go_wp2
        go_ret
        exact ⟨ret_bool HR.out.symm, hE3⟩
    · have hkn : k = n := by omega
      have HR := Lib.hid (SetTo.all (n := m) (xs := xs) (by rw [hl, ← hkn]; exact hT.out.1))
      go_wp2
      go_ret
      exact ⟨ret_bool HR.out.symm, hE⟩

/-! The argument that a projection selects, of both. -/
/-- In a drawn region: from here on under a stronger condition. -/
theorem wpAnyH_str {P : Program} {ops : Array Oper} {Q : Exit → Act → World → Prop} {md : Region.Mode} {S S' : World → Prop} (hS : ∀ w, S' w → S w) : ∀ {fuel : Nat} {listed : Array Bool} {a : Act} {w : World}, wpAnyH P md ops Q S' fuel listed a w → wpAnyH P md ops Q S fuel listed a w
  | 0, _, _, _, h => h
  | _ + 1, _, _, _, h => ⟨h.1, fun i hi => wpOp_mono (fun _ _ h' => ⟨hS _ h'.1, wpAnyH_str hS h'.2⟩) (h.2 i hi)⟩
theorem has0_t {ar t u : List Int} {p : Nat} (ht : TermP ar t) (h1 : p < t.length) (h : (subT ar t p).flat = u) : has0 ar t u = true := by
  unfold has0
  rcases Nat.eq_zero_or_pos p with h0 | h0
  · subst h0
    obtain ⟨hok, rest, hdr⟩ := subT_ok ht h1
    obtain ⟨k1, k2⟩ := tmOf_ok ht
    have e := (flat_inj _ _ k1 hok [] rest (by rw [List.append_nil, k2, ← hdr, List.drop_zero])).1
    rw [← e, k2] at h
    simp [h]
  · rw [has_t h0 h1 h]; simp
theorem has0_f {ar t u : List Int} (ht : TermP ar t) (h : ∀ p, p < t.length → ¬ (subT ar t p).flat = u) : has0 ar t u = false := by
  unfold has0
  rw [has_f fun p _ h2 => h p h2, Bool.or_false]
  have h0 := h 0 (by have := ht.2.1.1; omega)
  obtain ⟨hok, rest, hdr⟩ := subT_ok ht (show 0 < t.length by have := ht.2.1.1; omega)
  obtain ⟨k1, k2⟩ := tmOf_ok ht
  have e := (flat_inj _ _ k1 hok [] rest (by rw [List.append_nil, k2, ← hdr, List.drop_zero])).1
  rw [← e, k2] at h0
  simp [h0]
set_option maxRecDepth 100000 in
set_option maxHeartbeats 2000000 in
theorem c_hasSub0 {v0 v1 v2 : Value} {ar t u : List Int} {bb : Bool} {w : World} (hbb : has0 ar t u = bb) (h0 : RdSig w v0 ar) (h1 : RdIc w v1 t) (h2 : RdI w v2 u) (ht : TermP ar t) :
    Calls Try.prog 115 #[v0, v1, .int .i64 0, v2] w fun e w' => e = .returned (.bool bb) ∧ Ext w w' := by
  subst hbb
  obtain ⟨A, n, c, rfl, ha⟩ := h0
  obtain ⟨B, m, d, rfl, hcap, hb⟩ := h1
  obtain ⟨D, q, l, rfl, hd⟩ := h2
  have hm := hb.le
  have hml := hb.len
  have HA := Lib.hid ha
  have HB := Lib.hid hb
  have HD := Lib.hid hd
  have HCP := Lib.hid hcap
  have HML := Lib.hid hml
  have HT := Lib.hid ht
  have HSG := Lib.hid (show SigP ar from ht.1)
  clear ha hb hd hcap hml ht
  go_enter Try.func115, Try.ntmps115
  go_wp2_with fail
  obtain ⟨wo, hwo⟩ : ∃ wo, wo = w.alloc (.cells #[.slice A n c] 31) := ⟨_, rfl⟩
  have hw0 : wo.cell? ⟨w.heap.size, 0, none⟩ = some (.slice A n c) := by rw [hwo]; simp [go_sem]
  have hEo : Ext w wo := by rw [hwo]; (repeat' (first | (with_reducible exact Ext.refl _) | (with_reducible assumption) | (with_reducible refine Ext.alloc ?_ _) | (with_reducible refine Ext.set ?_ ?_ _) | (with_reducible refine Ext.drewN ?_ _) | (with_reducible refine Ext.drew ?_) | (with_reducible refine Ext.trans ?_ (by with_reducible assumption)) | go_size))
  rw [← hwo]
  clear hwo
  go_loopw [9] (fun i wr => ∃ k : Nat, i = .int .i64 k ∧ k ≤ m ∧ Hid (∀ p, p < k → ¬ (subT ar t p).flat = u) ∧ Ext wo wr) (fun i _ => m - (intOf i).toNat)
  case atStart => exact ⟨0, rfl, Nat.zero_le _, Lib.hid fun p h1 => by omega, Ext.refl _⟩
  case round =>
    obtain ⟨k, rfl, hk, hp, hE⟩ := hrel
    have hEw : Ext w wr := Ext.trans hEo hE
    have hr0 := Ext.keep hE hw0
    by_cases hlt : k < m
    · obtain ⟨hok, rest, hdr⟩ := subT_ok HT.out (show k < t.length by rw [HML.out]; exact hlt)
      have HOK := Lib.hid hok
      have HDR := Lib.hid hdr
      clear hok hdr
      have hki : (k : Int) < (m : Int) := by omega
      have hk0 : (0 : Int) ≤ (k : Int) := by omega
      by_cases he : (subT ar t k).flat = u
      · have HR := Lib.hid (has0_t HT.out (by rw [HML.out]; exact hlt) he)
        have HEQ := Lib.hid (show ((subT ar t k).flat == u) = true by simpa using he)
        clear he
        go_wp2_with fail
        (with_reducible refine (c_subAt (u := subT ar t k) (p := k) (RdSig.mk (RI.ext HA.out hEw)) (RdIc.mk HCP.out (RI.ext HB.out hEw)) HSG.out HOK.out HDR.out).mono ?_)
        rintro e2 w2 ⟨A2, n2, c2, rfl, hcap2, hr2, hE2⟩
        have HR2 := Lib.hid hr2
        have hEw2 := Ext.trans hEw hE2
        clear hr2
        go_wp2_with fail
        (with_reducible refine (c_slicesEqual (xs := (subT ar t k).flat) (ys := u) (RdI.mk HR2.out) (RdI.mk (RI.ext HD.out hEw2))).mono ?_); rw [HEQ.out]; rintro e3 w3 ⟨rfl, hE3⟩
        go_wp2
        go_ret
        exact ⟨ret_bool HR.out.symm, by (repeat' (first | (with_reducible exact Ext.refl _) | (with_reducible assumption) | (with_reducible refine Ext.alloc ?_ _) | (with_reducible refine Ext.set ?_ ?_ _) | (with_reducible refine Ext.drewN ?_ _) | (with_reducible refine Ext.drew ?_) | (with_reducible refine Ext.trans ?_ (by with_reducible assumption)) | go_size))⟩
      · have HR := Lib.hid (show ∀ p, p < k + 1 → ¬ (subT ar t p).flat = u from fun p h2 => by
          rcases Nat.lt_or_ge p k with h | h
          · exact hp.out p h
          · obtain rfl : p = k := by omega
            exact he)
        have HEQ := Lib.hid (show ((subT ar t k).flat == u) = false by simpa using he)
        clear he
        go_wp2_with fail
        (with_reducible refine (c_subAt (u := subT ar t k) (p := k) (RdSig.mk (RI.ext HA.out hEw)) (RdIc.mk HCP.out (RI.ext HB.out hEw)) HSG.out HOK.out HDR.out).mono ?_)
        rintro e2 w2 ⟨A2, n2, c2, rfl, hcap2, hr2, hE2⟩
        have HR2 := Lib.hid hr2
        have hEw2 := Ext.trans hEw hE2
        clear hr2
        go_wp2_with fail
        (with_reducible refine (c_slicesEqual (xs := (subT ar t k).flat) (ys := u) (RdI.mk HR2.out) (RdI.mk (RI.ext HD.out hEw2))).mono ?_); rw [HEQ.out]; rintro e3 w3 ⟨rfl, hE3⟩
        go_wp2
        go_roundw
        case rel => exact ⟨k + 1, by go_num, by omega, HR, Ext.trans hE (Ext.trans hE2 hE3)⟩
        case measure => simp only [intOf]; omega
    · have HR := Lib.hid (has0_f (u := u) HT.out fun p h2 => hp.out p (by rw [HML.out] at h2; omega))
      go_wp2
      go_ret
      exact ⟨ret_bool HR.out.symm, by (repeat' (first | (with_reducible exact Ext.refl _) | (with_reducible assumption) | (with_reducible refine Ext.alloc ?_ _) | (with_reducible refine Ext.set ?_ ?_ _) | (with_reducible refine Ext.drewN ?_ _) | (with_reducible refine Ext.drew ?_) | (with_reducible refine Ext.trans ?_ (by with_reducible assumption)) | go_size))⟩
theorem c_hasSub1 {v0 v1 v2 : Value} {ar t u : List Int} {bb : Bool} {w : World} (hbb : has ar t u = bb) (h0 : RdSig w v0 ar) (h1 : RdIc w v1 t) (h2 : RdI w v2 u) (ht : TermP ar t) :
    Calls Try.prog 115 #[v0, v1, .int .i64 1, v2] w fun e w' => e = .returned (.bool bb) ∧ Ext w w' := by
  subst hbb; exact c_hasSub h0 h1 h2 ht
/-- A window into a term that is there, or nothing. -/
def NewA (w : World) (o : Option (List Int)) (e : Ending) (w' : World) : Prop := ∃ A n c, e = .returned (.slice A n c) ∧ (n ≤ c ∧ c ≤ 9223372036854775807) ∧ RI w' A n (o.getD []) ∧ Ext w w'
theorem NewA.none_ {w w' : World} {e : Ending} (h : NewA w none e w') : ∃ A c, e = .returned (.slice A 0 c) ∧ c ≤ 9223372036854775807 ∧ Ext w w' := by
  obtain ⟨A, n, c, he, hc, hr, hE⟩ := h
  have hn : n = 0 := by have := hr.len; simp at this; omega
  subst hn
  exact ⟨A, c, he, hc.2, hE⟩
theorem NewA.some_ {w w' : World} {l : List Int} {e : Ending} (h : NewA w (some l) e w') (hl : 1 ≤ l.length) : ∃ b o n c, e = .returned (.slice (some ⟨b, o, none⟩) n c) ∧ (n ≤ c ∧ c ≤ 9223372036854775807) ∧ 0 < n ∧ RI w' (some ⟨b, o, none⟩) n l ∧ Ext w w' := by
  obtain ⟨A, n, c, he, hc, hr, hE⟩ := h
  have hn : 0 < n := by have := hr.len; simp at this; omega
  obtain ⟨b, o, rfl, _⟩ := hr.2 hn
  exact ⟨b, o, n, c, he, hc, hn, hr, hE⟩
theorem c_argsK {v0 v1 : Value} {ar t rest : List Int} {k : Nat} {P : Int} {x : Int} {us : List Tm} {w : World} (h0 : RdSig w v0 ar) (h1 : RdI w v1 t) (hs : SigP ar) (hu : (Tm.node x us).Ok ar) (hd : t.drop 0 = (Tm.node x us).flat ++ rest) (hk : k < us.length) (hP : (starts (0 + 1) us)[k]? = some P) :
    Calls Try.prog 134 #[v0, v1, .int .i64 0] w fun e w' => ∃ b o c, e = .returned (.slice (some ⟨b, o, none⟩) us.length c) ∧ w'.cell? ⟨b, o + k, none⟩ = some (.int .i64 P) ∧ Ext w w' :=
  (c_argsAt (p := 0) h0 h1 hs hu hd).mono fun _ _ ⟨A, n, c, e, h1, h2, h3⟩ => by
    subst h1
    obtain ⟨b, o, y, rfl, hy, hc⟩ := RI.at_ h2 hk
    rw [hP] at hy; cases hy
    exact ⟨b, o, c, e, hc, h3⟩
set_option maxRecDepth 100000 in
set_option maxHeartbeats 4000000 in
theorem c_projected {v0 v1 v2 : Value} {ar pj t : List Int} {o : Option (List Int)} {w : World} (ho : argO ar pj t = o) (h0 : RdSig w v0 ar) (h1 : RdI w v1 pj) (h2 : RdIc w v2 t) (hp : ProjP ar pj) (ht : TermP ar t) (hz : ∀ x, t[0]? = some x → 0 ≤ x) :
    Calls Try.prog 114 #[v0, v1, v2] w fun e w' => NewA w o e w' ∧ (o = none → e = .returned (.slice none 0 0)) := by
  subst ho
  obtain ⟨f, us, i, het, hok, ht0, hpi, hneg, hpos⟩ := arg_at hp ht hz
  obtain ⟨A, n, c, rfl, ha⟩ := h0
  obtain ⟨D, q, l, rfl, hd⟩ := h1
  obtain ⟨B, m, d, rfl, hcap, hb⟩ := h2
  have hm1 : 0 < m := by rw [← hb.len]; exact ht.2.1.1
  have hfl : f < pj.length := (List.getElem?_eq_some_iff.1 hpi).1
  have hfq : f < q := by rw [← hd.len]; exact hfl
  obtain ⟨b, o, x, rfl, hx, hcx⟩ := RI.at_ hb hm1
  rw [ht0] at hx; cases hx
  obtain ⟨b', o', y, rfl, hy, hcy⟩ := RI.at_ hd hfq
  rw [hpi] at hy; cases hy
  have hcx0 : w.cell? ⟨b, o, none⟩ = some (.int .i64 (f : Int)) := by simpa using hcx
  have hbl := World.block_lt_of_cell? w _ hcx
  have hbl' := World.block_lt_of_cell? w _ hcy
  have hm1i : (0 : Int) < (m : Int) := by omega
  have hfqi : (f : Int) < (q : Int) := by omega
  have hf0 : (0 : Int) ≤ (f : Int) := by omega
  have HA := Lib.hid ha
  have HB := Lib.hid hb
  have HD := Lib.hid hd
  have HCP := Lib.hid hcap
  have HSG := Lib.hid (show SigP ar from ht.1)
  have HOK := Lib.hid hok
  have HET := Lib.hid (show t.drop 0 = (Tm.node (f : Int) us).flat ++ [] by rw [List.drop_zero, List.append_nil]; exact het)
  have HNEG := Lib.hid hneg
  have HPOS := Lib.hid hpos
  clear ha hb hd hcap hok het hneg hpos ht hz ht0 hpi hp hcx hfl
  by_cases hi : i < 0
  · have HR := Lib.hid (HNEG.out hi)
    go_enter Try.func114, Try.ntmps114
    go_wp2_with fail
    go_ret
    rw [HR.out]
    exact ⟨⟨none, 0, 0, rfl, by omega, RI.nil _ _, by (repeat' (first | (with_reducible exact Ext.refl _) | (with_reducible assumption) | (with_reducible refine Ext.alloc ?_ _) | (with_reducible refine Ext.set ?_ ?_ _) | (with_reducible refine Ext.drewN ?_ _) | (with_reducible refine Ext.drew ?_) | (with_reducible refine Ext.trans ?_ (by with_reducible assumption)) | go_size))⟩, fun _ => rfl⟩
  · obtain ⟨a, hu, ho, haok, hta⟩ := HPOS.out (by omega)
    obtain ⟨k, rfl⟩ := Int.eq_ofNat_of_zero_le (show 0 ≤ i by omega)
    rw [Int.toNat_natCast] at hu
    have hkl : k < us.length := (List.getElem?_eq_some_iff.1 hu).1
    have HO := Lib.hid ho
    have HAO := Lib.hid haok
    have HDA := Lib.hid (drop_arg HET.out hu)
    have HST := Lib.hid (starts_get (p := 0 + 1) hkl)
    have hk0 : (0 : Int) ≤ (k : Int) := by omega
    clear hu ho haok hta
    go_enter Try.func114, Try.ntmps114
    go_wp2_with fail
    obtain ⟨wo, hwo⟩ : ∃ wo, wo = w.alloc (.cells #[.slice A n c] 31) := ⟨_, rfl⟩
    have hw0 : wo.cell? ⟨w.heap.size, 0, none⟩ = some (.slice A n c) := by rw [hwo]; simp [go_sem]
    have hEo : Ext w wo := by rw [hwo]; (repeat' (first | (with_reducible exact Ext.refl _) | (with_reducible assumption) | (with_reducible refine Ext.alloc ?_ _) | (with_reducible refine Ext.set ?_ ?_ _) | (with_reducible refine Ext.drewN ?_ _) | (with_reducible refine Ext.drew ?_) | (with_reducible refine Ext.trans ?_ (by with_reducible assumption)) | go_size))
    rw [← hwo]
    clear hwo
    obtain ⟨P, hPe⟩ : ∃ P : Nat, 0 + 1 + (flatL (List.take k us)).length = P := ⟨_, rfl⟩
    rw [hPe] at HST HDA
    clear hPe
    have hki : (k : Int) < (us.length : Int) := by omega
    refine wp_region_held_drew (S := (fun w' => w'.cell? ⟨w.heap.size, 0, none⟩ = some (.slice A n c) ∧ Ext wo w')) (by kernel_rfl) ?_ (fun hH => ?_)
    · exact ⟨hw0, (Ext.refl wo).drew⟩
    refine wpAnyH_take_dst (i := 0) (v := .agg #[.slice A n c]) (d := some 16) rfl rfl (by kernel_rfl) (by kernel_rfl) (by kernel_rfl) (fun _ _ _ h => h) (Or.inl ⟨by rfl, ?_⟩) hH ?_
    · (intro w hSw; (try dsimp only at hSw); go_split_ands; go_simp; try with_reducible rfl)
    try simp only [Act.put, List.setIfInBounds_toArray, List.set_cons_zero, List.set_cons_succ]
    refine wpAnyH_take_dst (i := 1) (v := .slice (some ⟨b, o, none⟩) m d) (d := some 17) rfl rfl (by kernel_rfl) (by kernel_rfl) (by kernel_rfl) (fun _ _ _ h => h) (Or.inl ⟨by rfl, ?_⟩) hH ?_
    · (intro w hSw; (try dsimp only at hSw); go_split_ands; go_simp; try with_reducible rfl)
    try simp only [Act.put, List.setIfInBounds_toArray, List.set_cons_zero, List.set_cons_succ]
    refine wpAnyH_take_dst (i := 2) (v := .agg #[.slice A n c]) (d := some 18) rfl rfl (by kernel_rfl) (by kernel_rfl) (by kernel_rfl) (fun _ _ _ h => h) (Or.inl ⟨by rfl, ?_⟩) hH ?_
    · (intro w hSw; (try dsimp only at hSw); go_split_ands; go_simp; try with_reducible rfl)
    try simp only [Act.put, List.setIfInBounds_toArray, List.set_cons_zero, List.set_cons_succ]
    refine wpAnyH_take_dst (i := 3) (v := .slice (some ⟨b, o, none⟩) m d) (d := some 19) rfl rfl (by kernel_rfl) (by kernel_rfl) (by kernel_rfl) (fun _ _ _ h => h) (Or.inl ⟨by rfl, ?_⟩) hH ?_
    · (intro w hSw; (try dsimp only at hSw); go_split_ands; go_simp; try with_reducible rfl)
    try simp only [Act.put, List.setIfInBounds_toArray, List.set_cons_zero, List.set_cons_succ]
    refine wpAnyH_take_dst (i := 5) (v := .int .i64 (k : Int)) (d := some 21) rfl rfl (by kernel_rfl) (by kernel_rfl) (by kernel_rfl) (fun _ _ _ h => h) (Or.inl ⟨by rfl, ?_⟩) hH ?_
    · (intro w hSw; (try dsimp only at hSw); go_split_ands; go_simp; try with_reducible rfl)
    try simp only [Act.put, List.setIfInBounds_toArray, List.set_cons_zero, List.set_cons_succ]
    refine wpAnyH_ready (rs := [4]) (by kernel_rfl) (by simp) ?_
    refine AllReadyH.cons rfl (fun K hK => ?_) AllReadyH.nil
    rw [if_pos (by rfl)]
    go_wp2_with (go_at_call 134; (with_reducible refine ((c_argsK (k := k) (RdSig.mk (RI.ext HA.out (Ext.trans hEo hH.2))) (RdI.mk (RI.ext HB.out (Ext.trans hEo hH.2))) HSG.out HOK.out HET.out hkl HST.out)).mono ?_); rintro e w5 ⟨b5, o5, c5, rfl, hc5, hE9⟩)
    refine hK.out _ _ ⟨Ext.keep hE9 hH.1, Ext.trans hH.2 hE9⟩ (fun hH9 => ?_)
    clear hK hH; have hH := hH9; clear hH9
    try simp only [Act.put, List.setIfInBounds_toArray, List.set_cons_zero, List.set_cons_succ]
    refine wpAnyH_str (S' := fun w' => (w'.cell? ⟨w.heap.size, 0, none⟩ = some (.slice A n c) ∧ Ext wo w') ∧ w'.cell? ⟨b5, o5 + k, none⟩ = some (.int .i64 (P : Int))) (fun _ h => h.1) ?_
    replace hH := (show (fun w' => (w'.cell? ⟨w.heap.size, 0, none⟩ = some (.slice A n c) ∧ Ext wo w') ∧ w'.cell? ⟨b5, o5 + k, none⟩ = some (.int .i64 (P : Int))) _ from ⟨hH, hc5⟩)
    refine wpAnyH_take_dst (i := 6) (v := .pointer (some ⟨b5, o5 + k, none⟩)) (d := some 22) rfl rfl (by kernel_rfl) (by kernel_rfl) (by kernel_rfl) (fun _ _ _ h => h) (Or.inl ⟨by rfl, ?_⟩) hH ?_
    · (intro w hSw; (try dsimp only at hSw); go_split_ands; go_simp; try with_reducible rfl)
    try simp only [Act.put, List.setIfInBounds_toArray, List.set_cons_zero, List.set_cons_succ]
    refine wpAnyH_take_dst (i := 7) (v := .int .i64 (P : Int)) (d := some 23) rfl rfl (by kernel_rfl) (by kernel_rfl) (by kernel_rfl) (fun _ _ _ h => h) (Or.inl ⟨by rfl, ?_⟩) hH ?_
    · (intro w hSw; (try dsimp only at hSw); go_split_ands; go_simp; try with_reducible rfl)
    try simp only [Act.put, List.setIfInBounds_toArray, List.set_cons_zero, List.set_cons_succ]
    refine wpAnyH_ready (rs := [8]) (by kernel_rfl) (by simp) ?_
    refine AllReadyH.cons rfl (fun K hK => ?_) AllReadyH.nil
    rw [if_pos (by rfl)]
    go_wp2_with (go_at_call 121; (with_reducible refine ((c_subAt (u := a) (RdSig.mk (RI.ext HA.out (Ext.trans hEo hH.1.2))) (RdIc.mk HCP.out (RI.ext HB.out (Ext.trans hEo hH.1.2))) HSG.out HAO.out HDA.out)).mono ?_); rintro e w6 ⟨A6, n6, c6, rfl, hcap6, hr6, hE9⟩)
    refine hK.out _ _ ⟨⟨Ext.keep hE9 hH.1.1, Ext.trans hH.1.2 hE9⟩, Ext.keep hE9 hH.2⟩ (fun hH9 => ?_)
    clear hK hH; have hH := hH9; clear hH9
    try simp only [Act.put, List.setIfInBounds_toArray, List.set_cons_zero, List.set_cons_succ]
    refine wpAnyH_take_dst (i := 9) (v := .slice A6 n6 c6) (d := some 6) rfl rfl (by kernel_rfl) (by kernel_rfl) (by kernel_rfl) (fun _ _ _ h => h) (Or.inl ⟨by rfl, ?_⟩) hH ?_
    · (intro w hSw; (try dsimp only at hSw); go_split_ands; go_simp; try with_reducible rfl)
    try simp only [Act.put, List.setIfInBounds_toArray, List.set_cons_zero, List.set_cons_succ]
    refine wpAnyH_done (by kernel_rfl) ?_ _
    have hE6 := Ext.trans hEo hH.1.2
    go_wp2
    go_ret
    rw [HO.out]
    exact ⟨⟨A6, n6, c6, rfl, hcap6, hr6, hE6⟩, fun h => by cases h⟩
theorem c_partsK {v0 v1 : Value} {ar : List Int} {k : Nat} {x : Int} {a : Tm} {us : List Tm} {w : World} (h0 : RdSig w v0 ar) (h1 : RdIc w v1 (Tm.node x us).flat) (hs : SigP ar) (hu : (Tm.node x us).Ok ar) (hk : us[k]? = some a) :
    Calls Try.prog 113 #[v0, v1] w fun e w' => ∃ b o c A' m' c', e = .returned (.slice (some ⟨b, o, none⟩) us.length c) ∧ w'.cell? ⟨b, o + k, none⟩ = some (.slice A' m' c') ∧ (m' ≤ c' ∧ c' ≤ 9223372036854775807) ∧ RI w' A' m' a.flat ∧ Ext w w' :=
  (c_l13Parts h0 h1 hs hu).mono fun _ _ ⟨A, n, c, e, h1, h2, h3⟩ => by
    subst h1
    obtain ⟨b, o, A', m', c', rfl, hc, hcap, hr⟩ := RS.at_ h2 hk
    exact ⟨b, o, c, A', m', c', e, hc, hcap, hr, h3⟩
set_option maxRecDepth 100000 in
set_option maxHeartbeats 4000000 in
theorem c_l18Arg {v0 v1 v2 : Value} {ar pj t : List Int} {o : Option (List Int)} {w : World} (ho : argO ar pj t = o) (h0 : RdSig w v0 ar) (h1 : RdI w v1 pj) (h2 : RdIc w v2 t) (hp : ProjP ar pj) (ht : TermP ar t) (hz : ∀ x, t[0]? = some x → 0 ≤ x) :
    Calls Try.prog 72 #[v0, v1, v2] w fun e w' => NewA w o e w' := by
  subst ho
  obtain ⟨f, us, i, het, hok, ht0, hpi, hneg, hpos⟩ := arg_at hp ht hz
  obtain ⟨A, n, c, rfl, ha⟩ := h0
  obtain ⟨D, q, l, rfl, hd⟩ := h1
  obtain ⟨B, m, d, rfl, hcap, hb⟩ := h2
  have hm1 : 0 < m := by rw [← hb.len]; exact ht.2.1.1
  have hfl : f < pj.length := (List.getElem?_eq_some_iff.1 hpi).1
  have hfq : f < q := by rw [← hd.len]; exact hfl
  obtain ⟨b, o, x, rfl, hx, hcx⟩ := RI.at_ hb hm1
  rw [ht0] at hx; cases hx
  obtain ⟨b', o', y, rfl, hy, hcy⟩ := RI.at_ hd hfq
  rw [hpi] at hy; cases hy
  have hcx0 : w.cell? ⟨b, o, none⟩ = some (.int .i64 (f : Int)) := by simpa using hcx
  have hbl := World.block_lt_of_cell? w _ hcx
  have hbl' := World.block_lt_of_cell? w _ hcy
  have hm1i : (0 : Int) < (m : Int) := by omega
  have hfqi : (f : Int) < (q : Int) := by omega
  have hf0 : (0 : Int) ≤ (f : Int) := by omega
  have HA := Lib.hid ha
  have HB := Lib.hid hb
  have HD := Lib.hid hd
  have HCP := Lib.hid hcap
  have HSG := Lib.hid (show SigP ar from ht.1)
  have HOK := Lib.hid hok
  have HET := Lib.hid het
  have HNEG := Lib.hid hneg
  have HPOS := Lib.hid hpos
  clear ha hb hd hcap hok het hneg hpos ht hz ht0 hpi hp hcx hfl
  by_cases hi : i < 0
  · have HR := Lib.hid (HNEG.out hi)
    go_enter Try.func72, Try.ntmps72
    go_wp2_with fail
    go_ret
    rw [HR.out]
    exact ⟨_, 0, 0, rfl, by omega, RI.nil _ _, by (repeat' (first | (with_reducible exact Ext.refl _) | (with_reducible assumption) | (with_reducible refine Ext.alloc ?_ _) | (with_reducible refine Ext.set ?_ ?_ _) | (with_reducible refine Ext.drewN ?_ _) | (with_reducible refine Ext.drew ?_) | (with_reducible refine Ext.trans ?_ (by with_reducible assumption)) | go_size))⟩
  · obtain ⟨a, hu, ho, haok, hta⟩ := HPOS.out (by omega)
    obtain ⟨k, rfl⟩ := Int.eq_ofNat_of_zero_le (show 0 ≤ i by omega)
    rw [Int.toNat_natCast] at hu
    have hkl : k < us.length := (List.getElem?_eq_some_iff.1 hu).1
    have HO := Lib.hid ho
    have HU := Lib.hid hu
    have hk0 : (0 : Int) ≤ (k : Int) := by omega
    have hki : (k : Int) < (us.length : Int) := by omega
    clear hu ho haok hta
    go_enter Try.func72, Try.ntmps72
    go_wp2_with fail
    obtain ⟨wo, hwo⟩ : ∃ wo, wo = w.alloc (.cells #[.slice A n c] 31) := ⟨_, rfl⟩
    have hw0 : wo.cell? ⟨w.heap.size, 0, none⟩ = some (.slice A n c) := by rw [hwo]; simp [go_sem]
    have hEo : Ext w wo := by rw [hwo]; (repeat' (first | (with_reducible exact Ext.refl _) | (with_reducible assumption) | (with_reducible refine Ext.alloc ?_ _) | (with_reducible refine Ext.set ?_ ?_ _) | (with_reducible refine Ext.drewN ?_ _) | (with_reducible refine Ext.drew ?_) | (with_reducible refine Ext.trans ?_ (by with_reducible assumption)) | go_size))
    rw [← hwo]
    clear hwo
    have hx0 := Ext.keep hEo hcx0
    have hy0 := Ext.keep hEo hcy
    refine wp_region_held_drew (S := (fun w' => w'.cell? ⟨w.heap.size, 0, none⟩ = some (.slice A n c) ∧ w'.cell? ⟨b, o, none⟩ = some (.int .i64 (f : Int)) ∧ w'.cell? ⟨b', o' + f, none⟩ = some (.int .i64 (k : Int)) ∧ Ext wo w')) (by kernel_rfl) ?_ (fun hH => ?_)
    · exact ⟨hw0, hx0, hy0, (Ext.refl wo).drew⟩
    refine wpAnyH_take_dst (i := 0) (v := .agg #[.slice A n c]) (d := some 15) rfl rfl (by kernel_rfl) (by kernel_rfl) (by kernel_rfl) (fun _ _ _ h => h) (Or.inl ⟨by rfl, ?_⟩) hH ?_
    · (intro w hSw; (try dsimp only at hSw); go_split_ands; go_simp; try with_reducible rfl)
    try simp only [Act.put, List.setIfInBounds_toArray, List.set_cons_zero, List.set_cons_succ]
    refine wpAnyH_take_dst (i := 1) (v := .slice (some ⟨b, o, none⟩) m d) (d := some 16) rfl rfl (by kernel_rfl) (by kernel_rfl) (by kernel_rfl) (fun _ _ _ h => h) (Or.inl ⟨by rfl, ?_⟩) hH ?_
    · (intro w hSw; (try dsimp only at hSw); go_split_ands; go_simp; try with_reducible rfl)
    try simp only [Act.put, List.setIfInBounds_toArray, List.set_cons_zero, List.set_cons_succ]
    refine wpAnyH_take_dst (i := 3) (v := .slice (some ⟨b', o', none⟩) q l) (d := some 18) rfl rfl (by kernel_rfl) (by kernel_rfl) (by kernel_rfl) (fun _ _ _ h => h) (Or.inl ⟨by rfl, ?_⟩) hH ?_
    · (intro w hSw; (try dsimp only at hSw); go_split_ands; go_simp; try with_reducible rfl)
    try simp only [Act.put, List.setIfInBounds_toArray, List.set_cons_zero, List.set_cons_succ]
    refine wpAnyH_take_dst (i := 4) (v := .slice (some ⟨b, o, none⟩) m d) (d := some 19) rfl rfl (by kernel_rfl) (by kernel_rfl) (by kernel_rfl) (fun _ _ _ h => h) (Or.inl ⟨by rfl, ?_⟩) hH ?_
    · (intro w hSw; (try dsimp only at hSw); go_split_ands; go_simp; try with_reducible rfl)
    try simp only [Act.put, List.setIfInBounds_toArray, List.set_cons_zero, List.set_cons_succ]
    refine wpAnyH_take_dst (i := 5) (v := .pointer (some ⟨b, o, none⟩)) (d := some 20) rfl rfl (by kernel_rfl) (by kernel_rfl) (by kernel_rfl) (fun _ _ _ h => h) (Or.inl ⟨by rfl, ?_⟩) hH ?_
    · (intro w hSw; (try dsimp only at hSw); go_split_ands; go_simp; try with_reducible rfl)
    try simp only [Act.put, List.setIfInBounds_toArray, List.set_cons_zero, List.set_cons_succ]
    refine wpAnyH_take_dst (i := 6) (v := .int .i64 (f : Int)) (d := some 21) rfl rfl (by kernel_rfl) (by kernel_rfl) (by kernel_rfl) (fun _ _ _ h => h) (Or.inl ⟨by rfl, ?_⟩) hH ?_
    · (intro w hSw; (try dsimp only at hSw); go_split_ands; go_simp; try with_reducible rfl)
    try simp only [Act.put, List.setIfInBounds_toArray, List.set_cons_zero, List.set_cons_succ]
    refine wpAnyH_take_dst (i := 7) (v := .pointer (some ⟨b', o' + f, none⟩)) (d := some 22) rfl rfl (by kernel_rfl) (by kernel_rfl) (by kernel_rfl) (fun _ _ _ h => h) (Or.inl ⟨by rfl, ?_⟩) hH ?_
    · (intro w hSw; (try dsimp only at hSw); go_split_ands; go_simp; try with_reducible rfl)
    try simp only [Act.put, List.setIfInBounds_toArray, List.set_cons_zero, List.set_cons_succ]
    refine wpAnyH_take_dst (i := 8) (v := .int .i64 (k : Int)) (d := some 23) rfl rfl (by kernel_rfl) (by kernel_rfl) (by kernel_rfl) (fun _ _ _ h => h) (Or.inl ⟨by rfl, ?_⟩) hH ?_
    · (intro w hSw; (try dsimp only at hSw); go_split_ands; go_simp; try with_reducible rfl)
    try simp only [Act.put, List.setIfInBounds_toArray, List.set_cons_zero, List.set_cons_succ]
    refine wpAnyH_ready (rs := [2]) (by kernel_rfl) (by simp) ?_
    refine AllReadyH.cons rfl (fun K hK => ?_) AllReadyH.nil
    rw [if_pos (by rfl)]
    go_wp2_with (go_at_call 113; (with_reducible refine ((c_partsK (a := a) (RdSig.mk (RI.ext HA.out (Ext.trans hEo hH.2.2.2))) (RdIc.mk HCP.out (by rw [← HET.out]; exact RI.ext HB.out (Ext.trans hEo hH.2.2.2))) HSG.out HOK.out HU.out)).mono ?_); rintro e w5 ⟨b5, o5, c5, A6, n6, c6, rfl, hc5, hcap6, hr6, hE9⟩)
    refine hK.out _ _ ⟨Ext.keep hE9 hH.1, Ext.keep hE9 hH.2.1, Ext.keep hE9 hH.2.2.1, Ext.trans hH.2.2.2 hE9⟩ (fun hH9 => ?_)
    clear hK hH; have hH := hH9; clear hH9
    try simp only [Act.put, List.setIfInBounds_toArray, List.set_cons_zero, List.set_cons_succ]
    refine wpAnyH_str (S' := fun w' => (w'.cell? ⟨w.heap.size, 0, none⟩ = some (.slice A n c) ∧ w'.cell? ⟨b, o, none⟩ = some (.int .i64 (f : Int)) ∧ w'.cell? ⟨b', o' + f, none⟩ = some (.int .i64 (k : Int)) ∧ Ext wo w') ∧ w'.cell? ⟨b5, o5 + k, none⟩ = some (.slice A6 n6 c6)) (fun _ h => h.1) ?_
    replace hH := (show (fun w' => (w'.cell? ⟨w.heap.size, 0, none⟩ = some (.slice A n c) ∧ w'.cell? ⟨b, o, none⟩ = some (.int .i64 (f : Int)) ∧ w'.cell? ⟨b', o' + f, none⟩ = some (.int .i64 (k : Int)) ∧ Ext wo w') ∧ w'.cell? ⟨b5, o5 + k, none⟩ = some (.slice A6 n6 c6)) _ from ⟨hH, hc5⟩)
    refine wpAnyH_take_dst (i := 9) (v := .pointer (some ⟨b5, o5 + k, none⟩)) (d := some 24) rfl rfl (by kernel_rfl) (by kernel_rfl) (by kernel_rfl) (fun _ _ _ h => h) (Or.inl ⟨by rfl, ?_⟩) hH ?_
    · (intro w hSw; (try dsimp only at hSw); go_split_ands; go_simp; try with_reducible rfl)
    try simp only [Act.put, List.setIfInBounds_toArray, List.set_cons_zero, List.set_cons_succ]
    refine wpAnyH_take_dst (i := 10) (v := .slice A6 n6 c6) (d := some 25) rfl rfl (by kernel_rfl) (by kernel_rfl) (by kernel_rfl) (fun _ _ _ h => h) (Or.inl ⟨by rfl, ?_⟩) hH ?_
    · (intro w hSw; (try dsimp only at hSw); go_split_ands; go_simp; try with_reducible rfl)
    try simp only [Act.put, List.setIfInBounds_toArray, List.set_cons_zero, List.set_cons_succ]
    refine wpAnyH_take_dst (i := 11) (v := .slice A6 n6 c6) (d := some 6) rfl rfl (by kernel_rfl) (by kernel_rfl) (by kernel_rfl) (fun _ _ _ h => h) (Or.inl ⟨by rfl, ?_⟩) hH ?_
    · (intro w hSw; (try dsimp only at hSw); go_split_ands; go_simp; try with_reducible rfl)
    try simp only [Act.put, List.setIfInBounds_toArray, List.set_cons_zero, List.set_cons_succ]
    refine wpAnyH_done (by kernel_rfl) ?_ _
    have hE6 := Ext.trans hEo hH.1.2.2.2
    go_wp2
    go_ret
    rw [HO.out]
    exact ⟨A6, n6, c6, rfl, hcap6, hr6, hE6⟩

/-! What a projection removes: the program's. -/
/-- A list of the call's own and whether there is one. -/
def NewOb (w : World) (o : Option (List Int)) (e : Ending) (w' : World) : Prop := ∃ A n c, e = .returned (.tuple #[.slice A n c, .bool o.isSome]) ∧ OwI w' w.heap.size A n c (o.getD []) ∧ Ext w w'
theorem arg_pos {ar pj t l : List Int} (hp : ProjP ar pj) (ht : TermP ar t) (h0 : ∀ x, t[0]? = some x → 0 ≤ x) (h : argO ar pj t = some l) : 1 ≤ l.length ∧ TermP ar l := by
  obtain ⟨f, us, i, _, _, _, _, h1, h2⟩ := arg_at hp ht h0
  by_cases hi : i < 0
  · rw [h1 hi] at h; cases h
  · obtain ⟨a, _, e, _, hta⟩ := h2 (by omega)
    rw [e] at h; cases h
    exact ⟨flat_pos a, hta⟩
set_option maxRecDepth 100000 in
set_option maxHeartbeats 8000000 in
theorem c_project {v0 v2 v3 : Value} {A : Option Addr} {n c : Nat} {ar set pj : List Int} {ps : List DepP} {o : Option (List Int)} {w : World} (ho : prjGo ar pj ps set [] = o) (h0 : RdSig w v0 ar) (h1 : RE w A n ps) (h2 : RdI w v2 set) (h3 : RdI w v3 pj)
    (hpp : ∀ q ∈ ps, PairP ar q) (hpr : ProjP ar pj) (hset : SetP n set) :
    Calls Try.prog 75 #[v0, .slice A n c, v2, v3] w (NewOb w o) := by
  obtain ⟨S, sn, sc, rfl, hs⟩ := h0
  obtain ⟨D, m, d, rfl, hd⟩ := h2
  obtain ⟨J, jn, jc, rfl, hj⟩ := h3
  have HO := Lib.hid ho
  have HS := Lib.hid hs
  have HD := Lib.hid hd
  have HJ := Lib.hid hj
  have HA := Lib.hid h1
  have HPP := Lib.hid hpp
  have HPR := Lib.hid hpr
  have HST := Lib.hid hset
  have hmle := hd.le
  have hml := hd.len
  obtain ⟨i0, hii, hiz, his, hib⟩ := info_parts int64_info
  clear ho hs hd hj h1 hpp hpr hset
  have qN : ∀ (w : World) (a : Option Addr) (n c n' c' : Nat), (binOp .eql 22 (.slice a n c) (.slice none n' c')).run Try.prog w = .ok (.bool a.isNone) w := fun w a n c n' c' => Lib.run_eql_slice_nil w _ _ a n c n' c' Try.underlying22
  go_enter Try.func75, Try.ntmps75
  go_wp2_with fail
  obtain ⟨wb, hwb⟩ : ∃ wb, wb = w.alloc (.cells #[.slice S sn sc] 31) := ⟨_, rfl⟩
  have hb0 : wb.cell? ⟨w.heap.size, 0, none⟩ = some (.slice S sn sc) := by rw [hwb]; simp [go_sem]
  have hEb : Ext w wb := by rw [hwb]; (repeat' (first | (with_reducible exact Ext.refl _) | (with_reducible assumption) | (with_reducible refine Ext.alloc ?_ _) | (with_reducible refine Ext.set ?_ ?_ _) | (with_reducible refine Ext.drewN ?_ _) | (with_reducible refine Ext.drew ?_) | (with_reducible refine Ext.trans ?_ (by with_reducible assumption)) | go_size))
  have hbs : wb.heap.size = w.heap.size + 1 := by rw [hwb]; simp [go_sem]
  have HBS := Lib.hid hbs
  rw [← hwb]
  clear hwb hbs
  go_loopw [10, 17] (fun ov kv wr => ∃ k : Nat, kv = .int .i64 k ∧ k ≤ m ∧ (∃ A4 n4 c4, ov = .slice A4 n4 c4 ∧ n4 ≤ k ∧ Hid (∃ out, OwI wr (w.heap.size + 1) A4 n4 c4 out ∧ prjGo ar pj ps (set.drop k) out = o)) ∧ Ext wb wr) (fun _ kv _ => m - (intOf kv).toNat)
  case atStart => exact ⟨0, rfl, Nat.zero_le _, ⟨none, 0, 0, rfl, Nat.le_refl _, Lib.hid ⟨[], ⟨by omega, World.ownsRow_nil _ _ _ _⟩, HO.out⟩⟩, Ext.refl _⟩
  case round =>
    obtain ⟨k, rfl, hk, ⟨A4, n4, c4, rfl, hn4, hO⟩, hE⟩ := hrel
    obtain ⟨out, hO4, hG4⟩ := hO.out
    have HO4 := Lib.hid hO4
    have HG4 := Lib.hid hG4
    clear hO hO4 hG4
    have hEw : Ext w wr := Ext.trans hEb hE
    have hr0 := Ext.keep hE hb0
    by_cases hlt : k < m
    · obtain ⟨b', o', x, rfl, hx, hcx⟩ := RI.at_ (RI.ext HD.out hEw) hlt
      have hxs := (HST.out k x hx).1
      obtain ⟨z, rfl⟩ := Int.eq_ofNat_of_zero_le hxs.1
      have hzn : z < n := by omega
      obtain ⟨q, b, o2, A1, n1, c1, A2, n2, c2, hq, rfl, hc0, hc1, _, _, hcap1, hcap2, hr1, hr2⟩ := RE.at_ (RE.ext HA.out hEw) hzn
      have hqp := HPP.out q (List.mem_of_getElem? hq)
      have HX := Lib.hid hx
      have HQ := Lib.hid hq
      have HC1 := Lib.hid hcap1
      have HC2 := Lib.hid hcap2
      have HR1 := Lib.hid hr1
      have HR2 := Lib.hid hr2
      have HQ1 := Lib.hid hqp.1
      have HQ2 := Lib.hid hqp.2
      have hki : (k : Int) < (m : Int) := by omega
      have hk0 : (0 : Int) ≤ (k : Int) := by omega
      have hzi : (z : Int) < (n : Int) := by omega
      have hz0 : (0 : Int) ≤ (z : Int) := by omega
      have hbl := World.block_lt_of_cell? wr _ hc0
      clear hx hxs hq hqp hcap1 hcap2 hr1 hr2
      obtain ⟨ol, hol⟩ : ∃ ol, argO ar pj q.l = ol := ⟨_, rfl⟩
      obtain ⟨orr, hor⟩ : ∃ orr, argO ar pj q.r = orr := ⟨_, rfl⟩
      have HOL := Lib.hid hol
      have HOR := Lib.hid hor
      clear hol hor
      go_wp2_with fail
      refine wp_region_held_drew (S := (fun w' => w'.cell? ⟨w.heap.size, 0, none⟩ = some (.slice S sn sc) ∧ w'.cell? ⟨b, o2 + z * 4, none⟩ = some (.slice A1 n1 c1) ∧ w'.cell? ⟨b, o2 + z * 4 + 1, none⟩ = some (.slice A2 n2 c2) ∧ Ext wr w')) (by kernel_rfl) ?_ (fun hH => ?_)
      · exact ⟨hr0, hc0, hc1, (Ext.refl wr).drew⟩
      refine wpAnyH_take_dst (i := 0) (v := .agg #[.slice S sn sc]) (d := some 21) rfl rfl (by kernel_rfl) (by kernel_rfl) (by kernel_rfl) (fun _ _ _ h => h) (Or.inl ⟨by rfl, ?_⟩) hH ?_
      · (intro w hSw; (try dsimp only at hSw); go_split_ands; go_simp; try with_reducible rfl)
      try simp only [Act.put, List.setIfInBounds_toArray, List.set_cons_zero, List.set_cons_succ]
      refine wpAnyH_take_dst (i := 1) (v := .slice J jn jc) (d := some 22) rfl rfl (by kernel_rfl) (by kernel_rfl) (by kernel_rfl) (fun _ _ _ h => h) (Or.inl ⟨by rfl, ?_⟩) hH ?_
      · (intro w hSw; (try dsimp only at hSw); go_split_ands; go_simp; try with_reducible rfl)
      try simp only [Act.put, List.setIfInBounds_toArray, List.set_cons_zero, List.set_cons_succ]
      refine wpAnyH_take_dst (i := 2) (v := .slice (some ⟨b, o2, none⟩) n c) (d := some 23) rfl rfl (by kernel_rfl) (by kernel_rfl) (by kernel_rfl) (fun _ _ _ h => h) (Or.inl ⟨by rfl, ?_⟩) hH ?_
      · (intro w hSw; (try dsimp only at hSw); go_split_ands; go_simp; try with_reducible rfl)
      try simp only [Act.put, List.setIfInBounds_toArray, List.set_cons_zero, List.set_cons_succ]
      refine wpAnyH_take_dst (i := 3) (v := .int .i64 (z : Int)) (d := some 24) rfl rfl (by kernel_rfl) (by kernel_rfl) (by kernel_rfl) (fun _ _ _ h => h) (Or.inl ⟨by rfl, ?_⟩) hH ?_
      · (intro w hSw; (try dsimp only at hSw); go_split_ands; go_simp; try with_reducible rfl)
      try simp only [Act.put, List.setIfInBounds_toArray, List.set_cons_zero, List.set_cons_succ]
      refine wpAnyH_take_dst (i := 4) (v := .pointer (some ⟨b, o2 + z * 4, none⟩)) (d := some 25) rfl rfl (by kernel_rfl) (by kernel_rfl) (by kernel_rfl) (fun _ _ _ h => h) (Or.inl ⟨by rfl, ?_⟩) hH ?_
      · (intro w hSw; (try dsimp only at hSw); go_split_ands; go_simp; try with_reducible rfl)
      try simp only [Act.put, List.setIfInBounds_toArray, List.set_cons_zero, List.set_cons_succ]
      refine wpAnyH_take_dst (i := 5) (v := .pointer (some ⟨b, o2 + z * 4, none⟩)) (d := some 26) rfl rfl (by kernel_rfl) (by kernel_rfl) (by kernel_rfl) (fun _ _ _ h => h) (Or.inl ⟨by rfl, ?_⟩) hH ?_
      · (intro w hSw; (try dsimp only at hSw); go_split_ands; go_simp; try with_reducible rfl)
      try simp only [Act.put, List.setIfInBounds_toArray, List.set_cons_zero, List.set_cons_succ]
      refine wpAnyH_take_dst (i := 6) (v := .slice A1 n1 c1) (d := some 27) rfl rfl (by kernel_rfl) (by kernel_rfl) (by kernel_rfl) (fun _ _ _ h => h) (Or.inl ⟨by rfl, ?_⟩) hH ?_
      · (intro w hSw; (try dsimp only at hSw); go_split_ands; go_simp; try with_reducible rfl)
      try simp only [Act.put, List.setIfInBounds_toArray, List.set_cons_zero, List.set_cons_succ]
      refine wpAnyH_take_dst (i := 8) (v := .agg #[.slice S sn sc]) (d := some 29) rfl rfl (by kernel_rfl) (by kernel_rfl) (by kernel_rfl) (fun _ _ _ h => h) (Or.inl ⟨by rfl, ?_⟩) hH ?_
      · (intro w hSw; (try dsimp only at hSw); go_split_ands; go_simp; try with_reducible rfl)
      try simp only [Act.put, List.setIfInBounds_toArray, List.set_cons_zero, List.set_cons_succ]
      refine wpAnyH_take_dst (i := 9) (v := .slice J jn jc) (d := some 30) rfl rfl (by kernel_rfl) (by kernel_rfl) (by kernel_rfl) (fun _ _ _ h => h) (Or.inl ⟨by rfl, ?_⟩) hH ?_
      · (intro w hSw; (try dsimp only at hSw); go_split_ands; go_simp; try with_reducible rfl)
      try simp only [Act.put, List.setIfInBounds_toArray, List.set_cons_zero, List.set_cons_succ]
      refine wpAnyH_take_dst (i := 10) (v := .slice (some ⟨b, o2, none⟩) n c) (d := some 31) rfl rfl (by kernel_rfl) (by kernel_rfl) (by kernel_rfl) (fun _ _ _ h => h) (Or.inl ⟨by rfl, ?_⟩) hH ?_
      · (intro w hSw; (try dsimp only at hSw); go_split_ands; go_simp; try with_reducible rfl)
      try simp only [Act.put, List.setIfInBounds_toArray, List.set_cons_zero, List.set_cons_succ]
      refine wpAnyH_take_dst (i := 11) (v := .int .i64 (z : Int)) (d := some 32) rfl rfl (by kernel_rfl) (by kernel_rfl) (by kernel_rfl) (fun _ _ _ h => h) (Or.inl ⟨by rfl, ?_⟩) hH ?_
      · (intro w hSw; (try dsimp only at hSw); go_split_ands; go_simp; try with_reducible rfl)
      try simp only [Act.put, List.setIfInBounds_toArray, List.set_cons_zero, List.set_cons_succ]
      refine wpAnyH_take_dst (i := 12) (v := .pointer (some ⟨b, o2 + z * 4, none⟩)) (d := some 33) rfl rfl (by kernel_rfl) (by kernel_rfl) (by kernel_rfl) (fun _ _ _ h => h) (Or.inl ⟨by rfl, ?_⟩) hH ?_
      · (intro w hSw; (try dsimp only at hSw); go_split_ands; go_simp; try with_reducible rfl)
      try simp only [Act.put, List.setIfInBounds_toArray, List.set_cons_zero, List.set_cons_succ]
      refine wpAnyH_take_dst (i := 13) (v := .pointer (some ⟨b, o2 + z * 4 + 1, none⟩)) (d := some 34) rfl rfl (by kernel_rfl) (by kernel_rfl) (by kernel_rfl) (fun _ _ _ h => h) (Or.inl ⟨by rfl, ?_⟩) hH ?_
      · (intro w hSw; (try dsimp only at hSw); go_split_ands; go_simp; try with_reducible rfl)
      try simp only [Act.put, List.setIfInBounds_toArray, List.set_cons_zero, List.set_cons_succ]
      refine wpAnyH_take_dst (i := 14) (v := .slice A2 n2 c2) (d := some 35) rfl rfl (by kernel_rfl) (by kernel_rfl) (by kernel_rfl) (fun _ _ _ h => h) (Or.inl ⟨by rfl, ?_⟩) hH ?_
      · (intro w hSw; (try dsimp only at hSw); go_split_ands; go_simp; try with_reducible rfl)
      try simp only [Act.put, List.setIfInBounds_toArray, List.set_cons_zero, List.set_cons_succ]
      refine wpAnyH_ready (rs := [7]) (by kernel_rfl) (by simp) ?_
      refine AllReadyH.cons rfl (fun K hK => ?_) AllReadyH.nil
      rw [if_pos (by rfl)]
      go_wp2_with (go_at_call 114; (with_reducible refine ((c_projected HOL.out (RdSig.mk (RI.ext HS.out (Ext.trans hEw hH.2.2.2))) (RdI.mk (RI.ext HJ.out (Ext.trans hEw hH.2.2.2))) (RdIc.mk HC1.out (RI.ext HR1.out hH.2.2.2)) HPR.out HQ1.out.1 HQ1.out.2)).mono ?_); rintro e w6 ⟨⟨A6, n6, c6, rfl, hcap6, hr6, hE9⟩, hnn6⟩)
      refine hK.out _ _ ⟨Ext.keep hE9 hH.1, Ext.keep hE9 hH.2.1, Ext.keep hE9 hH.2.2.1, Ext.trans hH.2.2.2 hE9⟩ (fun hH9 => ?_)
      clear hK hH; have hH := hH9; clear hH9
      try simp only [Act.put, List.setIfInBounds_toArray, List.set_cons_zero, List.set_cons_succ]
      refine wpAnyH_ready (rs := [15]) (by kernel_rfl) (by simp) ?_
      refine AllReadyH.cons rfl (fun K hK => ?_) AllReadyH.nil
      rw [if_pos (by rfl)]
      go_wp2_with (go_at_call 114; (with_reducible refine ((c_projected HOR.out (RdSig.mk (RI.ext HS.out (Ext.trans hEw hH.2.2.2))) (RdI.mk (RI.ext HJ.out (Ext.trans hEw hH.2.2.2))) (RdIc.mk HC2.out (RI.ext HR2.out hH.2.2.2)) HPR.out HQ2.out.1 HQ2.out.2)).mono ?_); rintro e w7 ⟨⟨A7, n7, c7, rfl, hcap7, hr7, hE9⟩, hnn7⟩)
      refine hK.out _ _ ⟨Ext.keep hE9 hH.1, Ext.keep hE9 hH.2.1, Ext.keep hE9 hH.2.2.1, Ext.trans hH.2.2.2 hE9⟩ (fun hH9 => ?_)
      clear hK hH; have hH := hH9; clear hH9
      try simp only [Act.put, List.setIfInBounds_toArray, List.set_cons_zero, List.set_cons_succ]
      refine wpAnyH_take_dst (i := 16) (v := .slice A6 n6 c6) (d := some 13) rfl rfl (by kernel_rfl) (by kernel_rfl) (by kernel_rfl) (fun _ _ _ h => h) (Or.inl ⟨by rfl, ?_⟩) hH ?_
      · (intro w hSw; (try dsimp only at hSw); go_split_ands; go_simp; try with_reducible rfl)
      try simp only [Act.put, List.setIfInBounds_toArray, List.set_cons_zero, List.set_cons_succ]
      refine wpAnyH_take_dst (i := 17) (v := .slice A7 n7 c7) (d := some 14) rfl rfl (by kernel_rfl) (by kernel_rfl) (by kernel_rfl) (fun _ _ _ h => h) (Or.inl ⟨by rfl, ?_⟩) hH ?_
      · (intro w hSw; (try dsimp only at hSw); go_split_ands; go_simp; try with_reducible rfl)
      try simp only [Act.put, List.setIfInBounds_toArray, List.set_cons_zero, List.set_cons_succ]
      refine wpAnyH_done (by kernel_rfl) ?_ _
      have hEr := hH.2.2.2
      have hr7' := hH.1
      have hE7w := Ext.trans hEw hEr
      have hE7b := Ext.trans hE hEr
      have HR6 := Lib.hid (RI.ext hr6 hE9)
      have HR7 := Lib.hid hr7
      have HO7 := Lib.hid (HO4.out.ext hEr)
      clear hH hr6 hr7
      cases ol with
      | none =>
        have h5 := hnn6 rfl
        injection h5 with h5; injection h5 with h5 h6 h7
        subst h5 h6 h7
        have HP := Lib.hid (show o = none by rw [← HG4.out]; exact prjGo_none HX.out HQ.out (prjSt_l HOL.out))
        go_wp2_with fail
        refine bodyPost_ret (v := .tuple #[.slice none 0 0, .bool false]) (by simp [results, Try.results75, go_sem]) rfl ?_
        rw [HP.out]
        exact ⟨none, 0, 0, rfl, ⟨by omega, World.ownsRow_nil _ _ _ _⟩, hE7w⟩
      | some l =>
        have HL := Lib.hid (arg_pos HPR.out HQ1.out.1 HQ1.out.2 HOL.out)
        have hl1 := HL.out.1
        have hl6 := HR6.out.len
        simp only [Option.getD_some] at hl6
        obtain ⟨b6, o6, rfl, _⟩ := HR6.out.2 (by omega)
        cases orr with
        | none =>
          have h5 := hnn7 rfl
          injection h5 with h5; injection h5 with h5 h6 h7
          subst h5 h6 h7
          have HP := Lib.hid (show o = none by rw [← HG4.out]; exact prjGo_none HX.out HQ.out (prjSt_r HOR.out))
          go_wp2_with fail
          refine bodyPost_ret (v := .tuple #[.slice none 0 0, .bool false]) (by simp [results, Try.results75, go_sem]) rfl ?_
          rw [HP.out]
          exact ⟨none, 0, 0, rfl, ⟨by omega, World.ownsRow_nil _ _ _ _⟩, hE7w⟩
        | some r =>
          have HRR := Lib.hid (arg_pos HPR.out HQ2.out.1 HQ2.out.2 HOR.out)
          have hrr1 := HRR.out.1
          have hl7 := HR7.out.len
          simp only [Option.getD_some] at hl7
          obtain ⟨b7, o7, rfl, _⟩ := HR7.out.2 (by omega)
          cases h00 : has0 ar l r with
          | false =>
            have HP := Lib.hid (show o = none by rw [← HG4.out]; exact prjGo_none HX.out HQ.out (prjSt_n HOL.out HOR.out h00))
            go_wp2_with fail
            (with_reducible refine (c_hasSub0 (t := l) (u := r) h00 (RdSig.mk (RI.ext HS.out hE7w)) (RdIc.mk hcap6 HR6.out) (RdI.mk HR7.out) HL.out.2).mono ?_)
            rintro e8 w8 ⟨rfl, hE8⟩
            go_wp2_with fail
            refine bodyPost_ret (v := .tuple #[.slice none 0 0, .bool false]) (by simp [results, Try.results75, go_sem]) rfl ?_
            rw [HP.out]
            exact ⟨none, 0, 0, rfl, ⟨by omega, World.ownsRow_nil _ _ _ _⟩, Ext.trans hE7w hE8⟩
          | true =>
            cases h11 : has ar l r with
            | false =>
              have HP := Lib.hid (show prjGo ar pj ps (set.drop (k + 1)) out = o by rw [← HG4.out]; exact (prjGo_stay HX.out HQ.out (prjSt_s HOL.out HOR.out h00 h11)).symm)
              go_wp2_with fail
              (with_reducible refine (c_hasSub0 (t := l) (u := r) h00 (RdSig.mk (RI.ext HS.out hE7w)) (RdIc.mk hcap6 HR6.out) (RdI.mk HR7.out) HL.out.2).mono ?_)
              rintro e8 w8 ⟨rfl, hE8⟩
              have hr8 := Ext.keep hE8 hr7'
              have hE8w := Ext.trans hE7w hE8
              go_wp2_with fail
              (with_reducible refine (c_hasSub1 (t := l) (u := r) h11 (RdSig.mk (RI.ext HS.out hE8w)) (RdIc.mk hcap6 (RI.ext HR6.out hE8)) (RdI.mk (RI.ext HR7.out hE8)) HL.out.2).mono ?_)
              rintro e9 w9 ⟨rfl, hE9'⟩
              go_wp2_with fail
              go_roundw
              case rel => exact ⟨k + 1, by go_num, by omega, ⟨_, _, _, rfl, by omega, Lib.hid ⟨out, (HO7.out.ext hE8).ext hE9', HP.out⟩⟩, Ext.trans hE7b (Ext.trans hE8 hE9')⟩
              case measure => simp only [intOf]; omega
            | true =>
              have HP := Lib.hid (show prjGo ar pj ps (set.drop (k + 1)) (out ++ [(z : Int)]) = o by rw [← HG4.out]; exact (prjGo_go HX.out HQ.out (prjSt_s HOL.out HOR.out h00 h11)).symm)
              go_wp2_with fail
              (with_reducible refine (c_hasSub0 (t := l) (u := r) h00 (RdSig.mk (RI.ext HS.out hE7w)) (RdIc.mk hcap6 HR6.out) (RdI.mk HR7.out) HL.out.2).mono ?_)
              rintro e8 w8 ⟨rfl, hE8⟩
              have hr8 := Ext.keep hE8 hr7'
              have hE8w := Ext.trans hE7w hE8
              go_wp2_with fail
              (with_reducible refine (c_hasSub1 (t := l) (u := r) h11 (RdSig.mk (RI.ext HS.out hE8w)) (RdIc.mk hcap6 (RI.ext HR6.out hE8)) (RdI.mk (RI.ext HR7.out hE8)) HL.out.2).mono ?_)
              rintro e9 w9 ⟨rfl, hE9'⟩
              have HO9 := Lib.hid ((HO7.out.ext hE8).ext hE9')
              have hE9b := Ext.trans hE7b (Ext.trans hE8 hE9')
              have hsz9 := hE9b.size
              have hbz := HBS.out
              go_wp2_with (at_builtin; go_loud (refine wpList_append_lies _ rfl (.tmp 54) (.tmp 56) 22 rfl (w.heap.size + 1) 2 i0 (.int .i64 0) 1 8 Try.underlying22 hii hiz his hib rfl (by decide) _ _ _ rfl (OwI.alloc HO9.out _).2 ⟨w9.heap.size, 0, none⟩ 1 1 [.int .i64 (z : Int)] rfl rfl (one_cells _ _ _) (one_one _) (by decide) (by unfold maxLen; omega) (by omega) (by go_size) _ rfl ?_))
              intro g4 cap wx hown hg hat hltg
              have HON := Lib.hid (show OwI wx (w.heap.size + 1) (some ⟨g4, 0, none⟩) (n4 + 1) cap (out ++ [(z : Int)]) from ⟨by omega, by simpa using hown⟩)
              have hob := OwI.ob2 HO9.out
              have hEx : Ext wb wx := Ext.grown (hE9b.alloc _) hg (fun b hb => by have := (hob b hb).1; omega)
              clear hown hg hat hob
              go_wp2
              go_roundw
              case rel => exact ⟨k + 1, by go_num, by omega, ⟨_, _, _, rfl, by omega, Lib.hid ⟨_, HON.out, HP.out⟩⟩, hEx⟩
              case measure => simp only [intOf]; omega
    · obtain rfl : k = m := by omega
      have HP := Lib.hid (show o = some out by rw [← HG4.out]; exact prjGo_end (by omega))
      go_wp2_with fail
      refine bodyPost_ret (v := .tuple #[.slice A4 n4 c4, .bool true]) (by simp [results, Try.results75, go_sem]) rfl ?_
      rw [HP.out]
      exact ⟨A4, n4, c4, rfl, HO4.out.lower (Nat.le_succ _), hEw⟩

theorem c_iProjOk' {v0 v1 : Value} {ar pr : List Int} {b : Bool} {w : World} (hb : projOk ar pr = b) (h0 : RdSig w v0 ar) (h1 : RdI w v1 pr) :
    Calls Try.prog 37 #[v0, v1] w fun e w' => e = .returned (.bool b) ∧ Ext w w' := by subst hb; exact c_iProjOk h0 h1
set_option maxRecDepth 100000 in
set_option maxHeartbeats 4000000 in
theorem c_iProjectedBy {v0 v1 v2 : Value} {s : Sy} {set pj : List Int} {o : Option (List Int)} {w : World} (ho : prjV s set pj = o) (h0 : RdSyC w v0 s) (h1 : RdI w v1 set) (h2 : RdI w v2 pj) :
    Calls Try.prog 35 #[v0, v1, v2] w (NewOb w o) := by
  obtain ⟨A0, n0, c0, B0, m0, d0, rfl, ha, hb⟩ := h0
  obtain ⟨D, m, d, rfl, hd⟩ := h1
  obtain ⟨J, jn, jc, rfl, hj⟩ := h2
  have HA := Lib.hid ha
  have HB := Lib.hid hb
  have HD := Lib.hid hd
  have HJ := Lib.hid hj
  clear ha hb hd hj
  cases hpb : prB s with
  | false =>
    have HO := Lib.hid (show o = none by rw [← ho]; exact prjV_no1 hpb)
    clear ho
    go_enter Try.func35, Try.ntmps35
    go_wp2_with fail
    (with_reducible refine (c_iPairsOf rfl hpb (RdSyK.mk (RI.ext HA.out (by (repeat' (first | (with_reducible exact Ext.refl _) | (with_reducible assumption) | (with_reducible refine Ext.alloc ?_ _) | (with_reducible refine Ext.set ?_ ?_ _) | (with_reducible refine Ext.drewN ?_ _) | (with_reducible refine Ext.drew ?_) | (with_reducible refine Ext.trans ?_ (by with_reducible assumption)) | go_size)))) (RR.ext HB.out (by (repeat' (first | (with_reducible exact Ext.refl _) | (with_reducible assumption) | (with_reducible refine Ext.alloc ?_ _) | (with_reducible refine Ext.set ?_ ?_ _) | (with_reducible refine Ext.drewN ?_ _) | (with_reducible refine Ext.drew ?_) | (with_reducible refine Ext.trans ?_ (by with_reducible assumption)) | go_size)))))).mono ?_)
    rintro e w2 ⟨A2, n2, c2, rfl, hO2, hE2⟩
    clear hO2
    go_wp2_with fail
    refine bodyPost_ret (v := .tuple #[.slice none 0 0, .bool false]) (by simp [results, Try.results35, go_sem]) rfl ?_
    rw [HO.out]
    exact ⟨none, 0, 0, rfl, ⟨by omega, World.ownsRow_nil _ _ _ _⟩, by (repeat' (first | (with_reducible exact Ext.refl _) | (with_reducible assumption) | (with_reducible refine Ext.alloc ?_ _) | (with_reducible refine Ext.set ?_ ?_ _) | (with_reducible refine Ext.drewN ?_ _) | (with_reducible refine Ext.drew ?_) | (with_reducible refine Ext.trans ?_ (by with_reducible assumption)) | go_size))⟩
  | true =>
    have HPB := Lib.hid hpb
    go_enter Try.func35, Try.ntmps35
    go_wp2_with fail
    (with_reducible refine (c_iPairsOf rfl hpb (RdSyK.mk (RI.ext HA.out (by (repeat' (first | (with_reducible exact Ext.refl _) | (with_reducible assumption) | (with_reducible refine Ext.alloc ?_ _) | (with_reducible refine Ext.set ?_ ?_ _) | (with_reducible refine Ext.drewN ?_ _) | (with_reducible refine Ext.drew ?_) | (with_reducible refine Ext.trans ?_ (by with_reducible assumption)) | go_size)))) (RR.ext HB.out (by (repeat' (first | (with_reducible exact Ext.refl _) | (with_reducible assumption) | (with_reducible refine Ext.alloc ?_ _) | (with_reducible refine Ext.set ?_ ?_ _) | (with_reducible refine Ext.drewN ?_ _) | (with_reducible refine Ext.drew ?_) | (with_reducible refine Ext.trans ?_ (by with_reducible assumption)) | go_size)))))).mono ?_)
    rintro e w2 ⟨A2, n2, c2, rfl, hO2, hE2⟩
    have hlen := hO2.1.2.1
    have h64 := prV_le hpb
    rw [hlen] at h64
    have HR2 := Lib.hid hO2.re
    have hEw2 : Ext w w2 := by (repeat' (first | (with_reducible exact Ext.refl _) | (with_reducible assumption) | (with_reducible refine Ext.alloc ?_ _) | (with_reducible refine Ext.set ?_ ?_ _) | (with_reducible refine Ext.drewN ?_ _) | (with_reducible refine Ext.drew ?_) | (with_reducible refine Ext.trans ?_ (by with_reducible assumption)) | go_size))
    have hb0 : w2.cell? ⟨w.heap.size, 0, none⟩ = some (.slice A0 n0 c0) := Ext.keep hE2 (by simp [go_sem])
    clear hO2
    cases hst : setB (prV s).length set with
    | false =>
      have HO := Lib.hid (show o = none by rw [← ho]; exact prjV_no2 hst)
      rw [hlen] at hst
      clear ho
      go_wp2_with fail
      (with_reducible refine (c_setOk hst (RdI.mk (RI.ext HD.out hEw2)) (by omega)).mono ?_)
      rintro e w3 ⟨rfl, hE3⟩
      go_wp2_with fail
      refine bodyPost_ret (v := .tuple #[.slice none 0 0, .bool false]) (by simp [results, Try.results35, go_sem]) rfl ?_
      rw [HO.out]
      exact ⟨none, 0, 0, rfl, ⟨by omega, World.ownsRow_nil _ _ _ _⟩, by (repeat' (first | (with_reducible exact Ext.refl _) | (with_reducible assumption) | (with_reducible refine Ext.alloc ?_ _) | (with_reducible refine Ext.set ?_ ?_ _) | (with_reducible refine Ext.drewN ?_ _) | (with_reducible refine Ext.drew ?_) | (with_reducible refine Ext.trans ?_ (by with_reducible assumption)) | go_size))⟩
    | true =>
      have HST := Lib.hid (setB_iff.1 hst)
      have hst' := hst
      rw [hlen] at hst'
      cases hpj : projOk s.ar pj with
      | false =>
        have HO := Lib.hid (show o = none by rw [← ho]; exact prjV_no3 hpj)
        clear ho
        go_wp2_with fail
        (with_reducible refine (c_setOk hst' (RdI.mk (RI.ext HD.out hEw2)) (by omega)).mono ?_)
        rintro e w3 ⟨rfl, hE3⟩
        have hEw3 := Ext.trans hEw2 hE3
        have hb3 := Ext.keep hE3 hb0
        go_wp2_with fail
        (with_reducible refine (c_iProjOk' hpj (RdSig.mk (RI.ext HA.out hEw3)) (RdI.mk (RI.ext HJ.out hEw3))).mono ?_)
        rintro e w4 ⟨rfl, hE4⟩
        go_wp2_with fail
        refine bodyPost_ret (v := .tuple #[.slice none 0 0, .bool false]) (by simp [results, Try.results35, go_sem]) rfl ?_
        rw [HO.out]
        exact ⟨none, 0, 0, rfl, ⟨by omega, World.ownsRow_nil _ _ _ _⟩, by (repeat' (first | (with_reducible exact Ext.refl _) | (with_reducible assumption) | (with_reducible refine Ext.alloc ?_ _) | (with_reducible refine Ext.set ?_ ?_ _) | (with_reducible refine Ext.drewN ?_ _) | (with_reducible refine Ext.drew ?_) | (with_reducible refine Ext.trans ?_ (by with_reducible assumption)) | go_size))⟩
      | true =>
        have HO := Lib.hid (show prjGo s.ar pj (prV s) set [] = o by rw [← ho]; exact (prjV_yes hpb hst hpj).symm)
        have HPR := Lib.hid (show ProjP s.ar pj by simpa only [projOk, decide_eq_true_eq] using hpj)
        rw [hlen] at HST
        clear ho
        go_wp2_with fail
        (with_reducible refine (c_setOk hst' (RdI.mk (RI.ext HD.out hEw2)) (by omega)).mono ?_)
        rintro e w3 ⟨rfl, hE3⟩
        have hEw3 := Ext.trans hEw2 hE3
        have hb3 := Ext.keep hE3 hb0
        go_wp2_with fail
        (with_reducible refine (c_iProjOk' hpj (RdSig.mk (RI.ext HA.out hEw3)) (RdI.mk (RI.ext HJ.out hEw3))).mono ?_)
        rintro e w4 ⟨rfl, hE4⟩
        have hEw4 := Ext.trans hEw3 hE4
        have hb4 := Ext.keep hE4 hb3
        go_wp2_with fail
        (with_reducible refine (c_project HO.out (RdSig.mk (RI.ext HA.out hEw4)) (RE.ext HR2.out (Ext.trans hE3 hE4)) (RdI.mk (RI.ext HD.out hEw4)) (RdI.mk (RI.ext HJ.out hEw4)) (prV_ok HPB.out) HPR.out HST.out).mono ?_)
        rintro e w5 ⟨A5, n5, c5, rfl, hO5, hE5⟩
        have HO5 := Lib.hid hO5
        clear hO5
        go_wp2_with fail
        refine bodyPost_ret (v := .tuple #[.slice A5 n5 c5, .bool o.isSome]) (by simp [results, Try.results35, go_sem]) rfl ?_
        exact ⟨A5, n5, c5, rfl, HO5.out.lower (sz_of hEw4), Ext.trans hEw4 hE5⟩

/-! What a projection removes: the reference's. -/
/-- A list that is read and whether there is one. -/
def NewOr (w : World) (o : Option (List Int)) (e : Ending) (w' : World) : Prop := ∃ A n c, e = .returned (.tuple #[.slice A n c, .bool o.isSome]) ∧ RI w' A n (o.getD []) ∧ Ext w w'
theorem OwI.noneJ {w : World} {D : Nat} (hD : D ≤ w.heap.size) : OwI (w.alloc (.cells #[] 2)) D (some ⟨w.heap.size, 0, none⟩) 0 0 [] :=
  ⟨by omega, World.ownsRow_made w #[] 0 hD (by decide) rfl⟩
theorem c_sProjOk' {v0 v1 : Value} {ar pr : List Int} {b : Bool} {w : World} (hb : projOk ar pr = b) (h0 : RdSig w v0 ar) (h1 : RdI w v1 pr) :
    Calls Try.prog 71 #[v0, v1] w fun e w' => e = .returned (.bool b) ∧ Ext w w' := by subst hb; exact c_sProjOk h0 h1
theorem c_l17PartB {v0 v1 v2 : Value} {ar t u : List Int} {b : Bool} {w : World} (hb : has ar t u = b) (h0 : RdSig w v0 ar) (h1 : RdIc w v1 t) (h2 : RdI w v2 u) (ht : TermP ar t) :
    Calls Try.prog 73 #[v0, v1, v2] w fun e w' => e = .returned (.bool b) ∧ Ext w w' := by subst hb; exact c_l17Part h0 h1 h2 ht
theorem c_SameTermJ {v0 v1 : Value} {xs ys : List Int} {b : Bool} {w : World} (hb : (xs == ys) = b) (h0 : RdI w v0 xs) (h1 : RdI w v1 ys) :
    Calls Try.prog 74 #[v0, v1] w fun e w' => e = .returned (.bool b) ∧ Ext w w' := by subst hb; exact c_SameTerm h0 h1
set_option maxRecDepth 100000 in
set_option maxHeartbeats 8000000 in
theorem c_sProjectedBy {v0 v1 v2 : Value} {s : Sy} {set pj : List Int} {o : Option (List Int)} {w : World} (ho : prjV s set pj = o) (h0 : RdSyC w v0 s) (h1 : RdI w v1 set) (h2 : RdI w v2 pj) :
    Calls Try.prog 34 #[v0, v1, v2] w (NewOr w o) := by
  obtain ⟨A0, n0, c0, B0, m0, d0, rfl, ha, hb⟩ := h0
  obtain ⟨D, m, d, rfl, hd⟩ := h1
  obtain ⟨J, jn, jc, rfl, hj⟩ := h2
  have HA := Lib.hid ha
  have HB := Lib.hid hb
  have HD := Lib.hid hd
  have HJ := Lib.hid hj
  have hmle := hd.le
  have hml := hd.len
  clear ha hb hd hj
  obtain ⟨i0, hii, hiz, his, hib⟩ := info_parts int64_info
  cases hpb : prB s with
  | false =>
    have HO := Lib.hid (show o = none by rw [← ho]; exact prjV_no1 hpb)
    clear ho
    go_enter Try.func34, Try.ntmps34
    go_wp2_with fail
    (with_reducible refine (c_sPairsOf rfl hpb (RdSyK.mk (RI.ext HA.out (by (repeat' (first | (with_reducible exact Ext.refl _) | (with_reducible assumption) | (with_reducible refine Ext.alloc ?_ _) | (with_reducible refine Ext.set ?_ ?_ _) | (with_reducible refine Ext.drewN ?_ _) | (with_reducible refine Ext.drew ?_) | (with_reducible refine Ext.trans ?_ (by with_reducible assumption)) | go_size)))) (RR.ext HB.out (by (repeat' (first | (with_reducible exact Ext.refl _) | (with_reducible assumption) | (with_reducible refine Ext.alloc ?_ _) | (with_reducible refine Ext.set ?_ ?_ _) | (with_reducible refine Ext.drewN ?_ _) | (with_reducible refine Ext.drew ?_) | (with_reducible refine Ext.trans ?_ (by with_reducible assumption)) | go_size)))))).mono ?_)
    rintro e w2 ⟨A2, n2, c2, rfl, hO2, hE2⟩
    clear hO2
    go_wp2_with fail
    refine bodyPost_ret (v := .tuple #[.slice (some ⟨w2.heap.size, 0, none⟩) 0 0, .bool false]) (by simp [results, Try.results34, go_sem]) rfl ?_
    rw [HO.out]
    exact ⟨_, 0, 0, rfl, RI.nil _ _, by (repeat' (first | (with_reducible exact Ext.refl _) | (with_reducible assumption) | (with_reducible refine Ext.alloc ?_ _) | (with_reducible refine Ext.set ?_ ?_ _) | (with_reducible refine Ext.drewN ?_ _) | (with_reducible refine Ext.drew ?_) | (with_reducible refine Ext.trans ?_ (by with_reducible assumption)) | go_size))⟩
  | true =>
    have HPB := Lib.hid hpb
    go_enter Try.func34, Try.ntmps34
    go_wp2_with fail
    (with_reducible refine (c_sPairsOf rfl hpb (RdSyK.mk (RI.ext HA.out (by (repeat' (first | (with_reducible exact Ext.refl _) | (with_reducible assumption) | (with_reducible refine Ext.alloc ?_ _) | (with_reducible refine Ext.set ?_ ?_ _) | (with_reducible refine Ext.drewN ?_ _) | (with_reducible refine Ext.drew ?_) | (with_reducible refine Ext.trans ?_ (by with_reducible assumption)) | go_size)))) (RR.ext HB.out (by (repeat' (first | (with_reducible exact Ext.refl _) | (with_reducible assumption) | (with_reducible refine Ext.alloc ?_ _) | (with_reducible refine Ext.set ?_ ?_ _) | (with_reducible refine Ext.drewN ?_ _) | (with_reducible refine Ext.drew ?_) | (with_reducible refine Ext.trans ?_ (by with_reducible assumption)) | go_size)))))).mono ?_)
    rintro e w2 ⟨A2, n2, c2, rfl, hO2, hE2⟩
    have hlen := hO2.1.2.1
    have h64 := prV_le hpb
    rw [hlen] at h64
    have HR2 := Lib.hid hO2.re
    have hEw2 : Ext w w2 := by (repeat' (first | (with_reducible exact Ext.refl _) | (with_reducible assumption) | (with_reducible refine Ext.alloc ?_ _) | (with_reducible refine Ext.set ?_ ?_ _) | (with_reducible refine Ext.drewN ?_ _) | (with_reducible refine Ext.drew ?_) | (with_reducible refine Ext.trans ?_ (by with_reducible assumption)) | go_size))
    have hb0 : w2.cell? ⟨w.heap.size, 0, none⟩ = some (.slice A0 n0 c0) := Ext.keep hE2 (by simp [go_sem])
    clear hO2
    cases hst : setB (prV s).length set with
    | false =>
      have HO := Lib.hid (show o = none by rw [← ho]; exact prjV_no2 hst)
      rw [hlen] at hst
      clear ho
      go_wp2_with fail
      (with_reducible refine (c_l18Set hst (RdI.mk (RI.ext HD.out hEw2)) (by omega)).mono ?_)
      rintro e w3 ⟨rfl, hE3⟩
      go_wp2_with fail
      refine bodyPost_ret (v := .tuple #[.slice (some ⟨w3.heap.size, 0, none⟩) 0 0, .bool false]) (by simp [results, Try.results34, go_sem]) rfl ?_
      rw [HO.out]
      exact ⟨_, 0, 0, rfl, RI.nil _ _, by (repeat' (first | (with_reducible exact Ext.refl _) | (with_reducible assumption) | (with_reducible refine Ext.alloc ?_ _) | (with_reducible refine Ext.set ?_ ?_ _) | (with_reducible refine Ext.drewN ?_ _) | (with_reducible refine Ext.drew ?_) | (with_reducible refine Ext.trans ?_ (by with_reducible assumption)) | go_size))⟩
    | true =>
      have HST := Lib.hid (setB_iff.1 hst)
      have hst' := hst
      rw [hlen] at hst'
      cases hpj : projOk s.ar pj with
      | false =>
        have HO := Lib.hid (show o = none by rw [← ho]; exact prjV_no3 hpj)
        clear ho
        go_wp2_with fail
        (with_reducible refine (c_l18Set hst' (RdI.mk (RI.ext HD.out hEw2)) (by omega)).mono ?_)
        rintro e w3 ⟨rfl, hE3⟩
        have hEw3 := Ext.trans hEw2 hE3
        have hb3 := Ext.keep hE3 hb0
        go_wp2_with fail
        (with_reducible refine (c_sProjOk' hpj (RdSig.mk (RI.ext HA.out hEw3)) (RdI.mk (RI.ext HJ.out hEw3))).mono ?_)
        rintro e w4 ⟨rfl, hE4⟩
        go_wp2_with fail
        refine bodyPost_ret (v := .tuple #[.slice (some ⟨w4.heap.size, 0, none⟩) 0 0, .bool false]) (by simp [results, Try.results34, go_sem]) rfl ?_
        rw [HO.out]
        exact ⟨_, 0, 0, rfl, RI.nil _ _, by (repeat' (first | (with_reducible exact Ext.refl _) | (with_reducible assumption) | (with_reducible refine Ext.alloc ?_ _) | (with_reducible refine Ext.set ?_ ?_ _) | (with_reducible refine Ext.drewN ?_ _) | (with_reducible refine Ext.drew ?_) | (with_reducible refine Ext.trans ?_ (by with_reducible assumption)) | go_size))⟩
      | true =>
        have HO := Lib.hid (show prjGo s.ar pj (prV s) set [] = o by rw [← ho]; exact (prjV_yes hpb hst hpj).symm)
        have HPR := Lib.hid (show ProjP s.ar pj by simpa only [projOk, decide_eq_true_eq] using hpj)
        rw [hlen] at HST
        clear ho
        go_wp2_with fail
        (with_reducible refine (c_l18Set hst' (RdI.mk (RI.ext HD.out hEw2)) (by omega)).mono ?_)
        rintro e w3 ⟨rfl, hE3⟩
        have hEw3 := Ext.trans hEw2 hE3
        have hb3 := Ext.keep hE3 hb0
        go_wp2_with fail
        (with_reducible refine (c_sProjOk' hpj (RdSig.mk (RI.ext HA.out hEw3)) (RdI.mk (RI.ext HJ.out hEw3))).mono ?_)
        rintro e w4 ⟨rfl, hE4⟩
        have hEw4 := Ext.trans hEw3 hE4
        have hb4 := Ext.keep hE4 hb3
        have HA4 := Lib.hid (RE.ext HR2.out (Ext.trans hE3 hE4))
        have HO4 := Lib.hid (OwI.noneJ (w := w4) (D := w4.heap.size) (Nat.le_refl _))
        clear HR2
        go_wp2_with fail
        go_loopw [10, 11] (fun ov kv wr => ∃ k : Nat, kv = .int .i64 k ∧ k ≤ m ∧ (∃ A9 n9 c9, ov = .slice A9 n9 c9 ∧ n9 ≤ k ∧ Hid (∃ out, OwI wr w4.heap.size A9 n9 c9 out ∧ prjGo s.ar pj (prV s) (set.drop k) out = o)) ∧ Ext w4 wr) (fun _ kv _ => m - (intOf kv).toNat)
        case atStart => exact ⟨0, rfl, Nat.zero_le _, ⟨_, 0, 0, rfl, Nat.le_refl _, Lib.hid ⟨[], HO4.out, HO.out⟩⟩, (Ext.refl _).alloc _⟩
        case round =>
          obtain ⟨k, rfl, hk, ⟨A9, n9, c9, rfl, hn9, hO⟩, hE⟩ := hrel
          obtain ⟨out, hO9, hG9⟩ := hO.out
          have HO9 := Lib.hid hO9
          have HG9 := Lib.hid hG9
          clear hO hO9 hG9
          have hEw : Ext w wr := Ext.trans hEw4 hE
          have hr0 := Ext.keep hE hb4
          by_cases hlt : k < m
          · obtain ⟨b', o', x, rfl, hx, hcx⟩ := RI.at_ (RI.ext HD.out hEw) hlt
            have hxs := (HST.out k x hx).1
            obtain ⟨z, rfl⟩ := Int.eq_ofNat_of_zero_le hxs.1
            have hzn : z < n2 := by omega
            obtain ⟨q, b, o2, A1, n1, c1, B1, m1, d1, hq, rfl, hc0, hc1, _, _, hcap1, hcap2, hr1, hr2⟩ := RE.at_ (RE.ext HA4.out hE) hzn
            have hqp := prV_ok HPB.out q (List.mem_of_getElem? hq)
            have HX := Lib.hid hx
            have HQ := Lib.hid hq
            have HC1 := Lib.hid hcap1
            have HC2 := Lib.hid hcap2
            have HR1 := Lib.hid hr1
            have HR2 := Lib.hid hr2
            have HQ1 := Lib.hid hqp.1
            have HQ2 := Lib.hid hqp.2
            have hki : (k : Int) < (m : Int) := by omega
            have hk0 : (0 : Int) ≤ (k : Int) := by omega
            have hzi : (z : Int) < (n2 : Int) := by omega
            have hz0 : (0 : Int) ≤ (z : Int) := by omega
            have hbl := World.block_lt_of_cell? wr _ hc0
            have hbl' := World.block_lt_of_cell? wr _ hcx
            clear hx hxs hq hqp hcap1 hcap2 hr1 hr2
            obtain ⟨ol, hol⟩ : ∃ ol, argO s.ar pj q.l = ol := ⟨_, rfl⟩
            obtain ⟨orr, hor⟩ : ∃ orr, argO s.ar pj q.r = orr := ⟨_, rfl⟩
            have HOL := Lib.hid hol
            have HOR := Lib.hid hor
            clear hol hor
            go_wp2_with fail
            refine wp_region_held_drew (S := (fun w' => w'.cell? ⟨w.heap.size, 0, none⟩ = some (.slice A0 n0 c0) ∧ w'.cell? ⟨b', o' + k, none⟩ = some (.int .i64 (z : Int)) ∧ w'.cell? ⟨b, o2 + z * 4, none⟩ = some (.slice A1 n1 c1) ∧ Ext wr w')) (by kernel_rfl) ?_ (fun hH => ?_)
            · exact ⟨hr0, hcx, hc0, (Ext.refl wr).drew⟩
            refine wpAnyH_take_dst (i := 0) (v := .pointer (some ⟨w.heap.size, 0, none⟩)) (d := some 44) rfl rfl (by kernel_rfl) (by kernel_rfl) (by kernel_rfl) (fun _ _ _ h => h) (Or.inl ⟨by rfl, ?_⟩) hH ?_
            · (intro w hSw; (try dsimp only at hSw); go_split_ands; go_simp; try with_reducible rfl)
            try simp only [Act.put, List.setIfInBounds_toArray, List.set_cons_zero, List.set_cons_succ]
            refine wpAnyH_take_dst (i := 1) (v := .agg #[.slice A0 n0 c0]) (d := some 45) rfl rfl (by kernel_rfl) (by kernel_rfl) (by kernel_rfl) (fun _ _ _ h => h) (Or.inl ⟨by rfl, ?_⟩) hH ?_
            · (intro w hSw; (try dsimp only at hSw); go_split_ands; go_simp; try with_reducible rfl)
            try simp only [Act.put, List.setIfInBounds_toArray, List.set_cons_zero, List.set_cons_succ]
            refine wpAnyH_take_dst (i := 2) (v := .slice J jn jc) (d := some 46) rfl rfl (by kernel_rfl) (by kernel_rfl) (by kernel_rfl) (fun _ _ _ h => h) (Or.inl ⟨by rfl, ?_⟩) hH ?_
            · (intro w hSw; (try dsimp only at hSw); go_split_ands; go_simp; try with_reducible rfl)
            try simp only [Act.put, List.setIfInBounds_toArray, List.set_cons_zero, List.set_cons_succ]
            refine wpAnyH_take_dst (i := 3) (v := .slice (some ⟨b, o2, none⟩) n2 c2) (d := some 47) rfl rfl (by kernel_rfl) (by kernel_rfl) (by kernel_rfl) (fun _ _ _ h => h) (Or.inl ⟨by rfl, ?_⟩) hH ?_
            · (intro w hSw; (try dsimp only at hSw); go_split_ands; go_simp; try with_reducible rfl)
            try simp only [Act.put, List.setIfInBounds_toArray, List.set_cons_zero, List.set_cons_succ]
            refine wpAnyH_take_dst (i := 4) (v := .slice (some ⟨b', o', none⟩) m d) (d := some 48) rfl rfl (by kernel_rfl) (by kernel_rfl) (by kernel_rfl) (fun _ _ _ h => h) (Or.inl ⟨by rfl, ?_⟩) hH ?_
            · (intro w hSw; (try dsimp only at hSw); go_split_ands; go_simp; try with_reducible rfl)
            try simp only [Act.put, List.setIfInBounds_toArray, List.set_cons_zero, List.set_cons_succ]
            refine wpAnyH_take_dst (i := 5) (v := .int .i64 (k : Int)) (d := some 49) rfl rfl (by kernel_rfl) (by kernel_rfl) (by kernel_rfl) (fun _ _ _ h => h) (Or.inl ⟨by rfl, ?_⟩) hH ?_
            · (intro w hSw; (try dsimp only at hSw); go_split_ands; go_simp; try with_reducible rfl)
            try simp only [Act.put, List.setIfInBounds_toArray, List.set_cons_zero, List.set_cons_succ]
            refine wpAnyH_take_dst (i := 6) (v := .pointer (some ⟨b', o' + k, none⟩)) (d := some 50) rfl rfl (by kernel_rfl) (by kernel_rfl) (by kernel_rfl) (fun _ _ _ h => h) (Or.inl ⟨by rfl, ?_⟩) hH ?_
            · (intro w hSw; (try dsimp only at hSw); go_split_ands; go_simp; try with_reducible rfl)
            try simp only [Act.put, List.setIfInBounds_toArray, List.set_cons_zero, List.set_cons_succ]
            refine wpAnyH_take_dst (i := 7) (v := .int .i64 (z : Int)) (d := some 51) rfl rfl (by kernel_rfl) (by kernel_rfl) (by kernel_rfl) (fun _ _ _ h => h) (Or.inl ⟨by rfl, ?_⟩) hH ?_
            · (intro w hSw; (try dsimp only at hSw); go_split_ands; go_simp; try with_reducible rfl)
            try simp only [Act.put, List.setIfInBounds_toArray, List.set_cons_zero, List.set_cons_succ]
            refine wpAnyH_take_dst (i := 8) (v := .pointer (some ⟨b, o2 + z * 4, none⟩)) (d := some 52) rfl rfl (by kernel_rfl) (by kernel_rfl) (by kernel_rfl) (fun _ _ _ h => h) (Or.inl ⟨by rfl, ?_⟩) hH ?_
            · (intro w hSw; (try dsimp only at hSw); go_split_ands; go_simp; try with_reducible rfl)
            try simp only [Act.put, List.setIfInBounds_toArray, List.set_cons_zero, List.set_cons_succ]
            refine wpAnyH_take_dst (i := 9) (v := .pointer (some ⟨b, o2 + z * 4, none⟩)) (d := some 53) rfl rfl (by kernel_rfl) (by kernel_rfl) (by kernel_rfl) (fun _ _ _ h => h) (Or.inl ⟨by rfl, ?_⟩) hH ?_
            · (intro w hSw; (try dsimp only at hSw); go_split_ands; go_simp; try with_reducible rfl)
            try simp only [Act.put, List.setIfInBounds_toArray, List.set_cons_zero, List.set_cons_succ]
            refine wpAnyH_take_dst (i := 10) (v := .slice A1 n1 c1) (d := some 54) rfl rfl (by kernel_rfl) (by kernel_rfl) (by kernel_rfl) (fun _ _ _ h => h) (Or.inl ⟨by rfl, ?_⟩) hH ?_
            · (intro w hSw; (try dsimp only at hSw); go_split_ands; go_simp; try with_reducible rfl)
            try simp only [Act.put, List.setIfInBounds_toArray, List.set_cons_zero, List.set_cons_succ]
            refine wpAnyH_ready (rs := [11]) (by kernel_rfl) (by simp) ?_
            refine AllReadyH.cons rfl (fun K hK => ?_) AllReadyH.nil
            rw [if_pos (by rfl)]
            go_wp2_with (go_at_call 72; (with_reducible refine ((c_l18Arg HOL.out (RdSig.mk (RI.ext HA.out (Ext.trans hEw hH.2.2.2))) (RdI.mk (RI.ext HJ.out (Ext.trans hEw hH.2.2.2))) (RdIc.mk HC1.out (RI.ext HR1.out hH.2.2.2)) HPR.out HQ1.out.1 HQ1.out.2)).mono ?_); rintro e w6 ⟨A6, n6, c6, rfl, hcap6, hr6, hE9⟩)
            refine hK.out _ _ ⟨Ext.keep hE9 hH.1, Ext.keep hE9 hH.2.1, Ext.keep hE9 hH.2.2.1, Ext.trans hH.2.2.2 hE9⟩ (fun hH9 => ?_)
            clear hK hH; have hH := hH9; clear hH9
            try simp only [Act.put, List.setIfInBounds_toArray, List.set_cons_zero, List.set_cons_succ]
            refine wpAnyH_take_dst (i := 12) (v := .slice A6 n6 c6) (d := some 12) rfl rfl (by kernel_rfl) (by kernel_rfl) (by kernel_rfl) (fun _ _ _ h => h) (Or.inl ⟨by rfl, ?_⟩) hH ?_
            · (intro w hSw; (try dsimp only at hSw); go_split_ands; go_simp; try with_reducible rfl)
            try simp only [Act.put, List.setIfInBounds_toArray, List.set_cons_zero, List.set_cons_succ]
            refine wpAnyH_done (by kernel_rfl) ?_ _
            have hE6 := hH.2.2.2
            have hs0 := hH.1
            have hsx := hH.2.1
            have hs1 := Ext.keep hE6 hc1
            have HR6 := Lib.hid hr6
            clear hH hr6
            go_wp2_with fail
            refine wp_region_held_drew (S := (fun w' => w'.cell? ⟨w.heap.size, 0, none⟩ = some (.slice A0 n0 c0) ∧ w'.cell? ⟨b', o' + k, none⟩ = some (.int .i64 (z : Int)) ∧ w'.cell? ⟨b, o2 + z * 4 + 1, none⟩ = some (.slice B1 m1 d1) ∧ Ext w6 w')) (by kernel_rfl) ?_ (fun hH => ?_)
            · exact ⟨hs0, hsx, hs1, (Ext.refl w6).drew⟩
            refine wpAnyH_take_dst (i := 0) (v := .pointer (some ⟨w.heap.size, 0, none⟩)) (d := some 56) rfl rfl (by kernel_rfl) (by kernel_rfl) (by kernel_rfl) (fun _ _ _ h => h) (Or.inl ⟨by rfl, ?_⟩) hH ?_
            · (intro w hSw; (try dsimp only at hSw); go_split_ands; go_simp; try with_reducible rfl)
            try simp only [Act.put, List.setIfInBounds_toArray, List.set_cons_zero, List.set_cons_succ]
            refine wpAnyH_take_dst (i := 1) (v := .agg #[.slice A0 n0 c0]) (d := some 57) rfl rfl (by kernel_rfl) (by kernel_rfl) (by kernel_rfl) (fun _ _ _ h => h) (Or.inl ⟨by rfl, ?_⟩) hH ?_
            · (intro w hSw; (try dsimp only at hSw); go_split_ands; go_simp; try with_reducible rfl)
            try simp only [Act.put, List.setIfInBounds_toArray, List.set_cons_zero, List.set_cons_succ]
            refine wpAnyH_take_dst (i := 2) (v := .slice J jn jc) (d := some 58) rfl rfl (by kernel_rfl) (by kernel_rfl) (by kernel_rfl) (fun _ _ _ h => h) (Or.inl ⟨by rfl, ?_⟩) hH ?_
            · (intro w hSw; (try dsimp only at hSw); go_split_ands; go_simp; try with_reducible rfl)
            try simp only [Act.put, List.setIfInBounds_toArray, List.set_cons_zero, List.set_cons_succ]
            refine wpAnyH_take_dst (i := 3) (v := .slice (some ⟨b, o2, none⟩) n2 c2) (d := some 59) rfl rfl (by kernel_rfl) (by kernel_rfl) (by kernel_rfl) (fun _ _ _ h => h) (Or.inl ⟨by rfl, ?_⟩) hH ?_
            · (intro w hSw; (try dsimp only at hSw); go_split_ands; go_simp; try with_reducible rfl)
            try simp only [Act.put, List.setIfInBounds_toArray, List.set_cons_zero, List.set_cons_succ]
            refine wpAnyH_take_dst (i := 4) (v := .slice (some ⟨b', o', none⟩) m d) (d := some 60) rfl rfl (by kernel_rfl) (by kernel_rfl) (by kernel_rfl) (fun _ _ _ h => h) (Or.inl ⟨by rfl, ?_⟩) hH ?_
            · (intro w hSw; (try dsimp only at hSw); go_split_ands; go_simp; try with_reducible rfl)
            try simp only [Act.put, List.setIfInBounds_toArray, List.set_cons_zero, List.set_cons_succ]
            refine wpAnyH_take_dst (i := 5) (v := .int .i64 (k : Int)) (d := some 61) rfl rfl (by kernel_rfl) (by kernel_rfl) (by kernel_rfl) (fun _ _ _ h => h) (Or.inl ⟨by rfl, ?_⟩) hH ?_
            · (intro w hSw; (try dsimp only at hSw); go_split_ands; go_simp; try with_reducible rfl)
            try simp only [Act.put, List.setIfInBounds_toArray, List.set_cons_zero, List.set_cons_succ]
            refine wpAnyH_take_dst (i := 6) (v := .pointer (some ⟨b', o' + k, none⟩)) (d := some 62) rfl rfl (by kernel_rfl) (by kernel_rfl) (by kernel_rfl) (fun _ _ _ h => h) (Or.inl ⟨by rfl, ?_⟩) hH ?_
            · (intro w hSw; (try dsimp only at hSw); go_split_ands; go_simp; try with_reducible rfl)
            try simp only [Act.put, List.setIfInBounds_toArray, List.set_cons_zero, List.set_cons_succ]
            refine wpAnyH_take_dst (i := 7) (v := .int .i64 (z : Int)) (d := some 63) rfl rfl (by kernel_rfl) (by kernel_rfl) (by kernel_rfl) (fun _ _ _ h => h) (Or.inl ⟨by rfl, ?_⟩) hH ?_
            · (intro w hSw; (try dsimp only at hSw); go_split_ands; go_simp; try with_reducible rfl)
            try simp only [Act.put, List.setIfInBounds_toArray, List.set_cons_zero, List.set_cons_succ]
            refine wpAnyH_take_dst (i := 8) (v := .pointer (some ⟨b, o2 + z * 4, none⟩)) (d := some 64) rfl rfl (by kernel_rfl) (by kernel_rfl) (by kernel_rfl) (fun _ _ _ h => h) (Or.inl ⟨by rfl, ?_⟩) hH ?_
            · (intro w hSw; (try dsimp only at hSw); go_split_ands; go_simp; try with_reducible rfl)
            try simp only [Act.put, List.setIfInBounds_toArray, List.set_cons_zero, List.set_cons_succ]
            refine wpAnyH_take_dst (i := 9) (v := .pointer (some ⟨b, o2 + z * 4 + 1, none⟩)) (d := some 65) rfl rfl (by kernel_rfl) (by kernel_rfl) (by kernel_rfl) (fun _ _ _ h => h) (Or.inl ⟨by rfl, ?_⟩) hH ?_
            · (intro w hSw; (try dsimp only at hSw); go_split_ands; go_simp; try with_reducible rfl)
            try simp only [Act.put, List.setIfInBounds_toArray, List.set_cons_zero, List.set_cons_succ]
            refine wpAnyH_take_dst (i := 10) (v := .slice B1 m1 d1) (d := some 66) rfl rfl (by kernel_rfl) (by kernel_rfl) (by kernel_rfl) (fun _ _ _ h => h) (Or.inl ⟨by rfl, ?_⟩) hH ?_
            · (intro w hSw; (try dsimp only at hSw); go_split_ands; go_simp; try with_reducible rfl)
            try simp only [Act.put, List.setIfInBounds_toArray, List.set_cons_zero, List.set_cons_succ]
            refine wpAnyH_ready (rs := [11]) (by kernel_rfl) (by simp) ?_
            refine AllReadyH.cons rfl (fun K hK => ?_) AllReadyH.nil
            rw [if_pos (by rfl)]
            go_wp2_with (go_at_call 72; (with_reducible refine ((c_l18Arg HOR.out (RdSig.mk (RI.ext HA.out (Ext.trans hEw (Ext.trans hE6 hH.2.2.2)))) (RdI.mk (RI.ext HJ.out (Ext.trans hEw (Ext.trans hE6 hH.2.2.2)))) (RdIc.mk HC2.out (RI.ext HR2.out (Ext.trans hE6 hH.2.2.2))) HPR.out HQ2.out.1 HQ2.out.2)).mono ?_); rintro e w7 ⟨A7, n7, c7, rfl, hcap7, hr7, hE9⟩)
            refine hK.out _ _ ⟨Ext.keep hE9 hH.1, Ext.keep hE9 hH.2.1, Ext.keep hE9 hH.2.2.1, Ext.trans hH.2.2.2 hE9⟩ (fun hH9 => ?_)
            clear hK hH; have hH := hH9; clear hH9
            try simp only [Act.put, List.setIfInBounds_toArray, List.set_cons_zero, List.set_cons_succ]
            refine wpAnyH_take_dst (i := 12) (v := .slice A7 n7 c7) (d := some 13) rfl rfl (by kernel_rfl) (by kernel_rfl) (by kernel_rfl) (fun _ _ _ h => h) (Or.inl ⟨by rfl, ?_⟩) hH ?_
            · (intro w hSw; (try dsimp only at hSw); go_split_ands; go_simp; try with_reducible rfl)
            try simp only [Act.put, List.setIfInBounds_toArray, List.set_cons_zero, List.set_cons_succ]
            refine wpAnyH_done (by kernel_rfl) ?_ _
            have hE7 := hH.2.2.2
            have hr7' := hH.1
            have hx7 := hH.2.1
            have hEr := Ext.trans hE6 hE7
            have hE7w := Ext.trans hEw hEr
            have hE7b := Ext.trans hE hEr
            have HR6 := Lib.hid (RI.ext HR6.out hE7)
            have HR7 := Lib.hid hr7
            have HO7 := Lib.hid (HO9.out.ext hEr)
            have hl6 := HR6.out.len
            have hl7 := HR7.out.len
            clear hH hr7
            cases ol with
            | none =>
              obtain rfl : n6 = 0 := by simpa using hl6.symm
              have HP := Lib.hid (show o = none by rw [← HG9.out]; exact prjGo_none HX.out HQ.out (prjSt_l HOL.out))
              go_wp2_with fail
              refine bodyPost_ret (v := .tuple #[.slice (some ⟨w7.heap.size, 0, none⟩) 0 0, .bool false]) (by simp [results, Try.results34, go_sem]) rfl ?_
              rw [HP.out]
              exact ⟨_, 0, 0, rfl, RI.nil _ _, by (repeat' (first | (with_reducible exact Ext.refl _) | (with_reducible assumption) | (with_reducible refine Ext.alloc ?_ _) | (with_reducible refine Ext.set ?_ ?_ _) | (with_reducible refine Ext.drewN ?_ _) | (with_reducible refine Ext.drew ?_) | (with_reducible refine Ext.trans ?_ (by with_reducible assumption)) | go_size))⟩
            | some l =>
              have HL := Lib.hid (arg_pos HPR.out HQ1.out.1 HQ1.out.2 HOL.out)
              have hl1 := HL.out.1
              simp only [Option.getD_some] at hl6
              have h60 : (n6 : Int) > 0 := by omega
              have h6p : 0 < n6 := by omega
              have h6z : ((n6 : Int) == 0) = false := by simp; omega
              cases orr with
              | none =>
                obtain rfl : n7 = 0 := by simpa using hl7.symm
                have HP := Lib.hid (show o = none by rw [← HG9.out]; exact prjGo_none HX.out HQ.out (prjSt_r HOR.out))
                go_wp2_with fail
                (with_reducible refine (c_SameTermJ (xs := l) (ys := []) (b := false) (by cases l with | nil => simp at hl1 | cons => simp) (RdI.mk HR6.out) (RdI.mk HR7.out)).mono ?_)
                rintro e8 w8 ⟨rfl, hE8⟩
                go_wp2_with fail
                refine bodyPost_ret (v := .tuple #[.slice (some ⟨w8.heap.size, 0, none⟩) 0 0, .bool false]) (by simp [results, Try.results34, go_sem]) rfl ?_
                rw [HP.out]
                exact ⟨_, 0, 0, rfl, RI.nil _ _, by (repeat' (first | (with_reducible exact Ext.refl _) | (with_reducible assumption) | (with_reducible refine Ext.alloc ?_ _) | (with_reducible refine Ext.set ?_ ?_ _) | (with_reducible refine Ext.drewN ?_ _) | (with_reducible refine Ext.drew ?_) | (with_reducible refine Ext.trans ?_ (by with_reducible assumption)) | go_size))⟩
              | some r =>
                have HRR := Lib.hid (arg_pos HPR.out HQ2.out.1 HQ2.out.2 HOR.out)
                have hrr1 := HRR.out.1
                simp only [Option.getD_some] at hl7
                have h70 : (n7 : Int) > 0 := by omega
                have h7p : 0 < n7 := by omega
                cases h11 : has s.ar l r with
                | false =>
                  cases hlr : (l == r) with
                  | false =>
                    have HP := Lib.hid (show o = none by rw [← HG9.out]; exact prjGo_none HX.out HQ.out (prjSt_n HOL.out HOR.out (by unfold has0; rw [hlr, h11]; rfl)))
                    go_wp2_with fail
                    (with_reducible refine (c_l17PartB (t := l) (u := r) h11 (RdSig.mk (RI.ext HA.out hE7w)) (RdIc.mk hcap6 HR6.out) (RdI.mk HR7.out) HL.out.2).mono ?_)
                    rintro e8 w8 ⟨rfl, hE8⟩
                    go_wp2_with fail
                    (with_reducible refine (c_SameTermJ (xs := l) (ys := r) hlr (RdI.mk (RI.ext HR6.out hE8)) (RdI.mk (RI.ext HR7.out hE8))).mono ?_)
                    rintro e9 w9 ⟨rfl, hE9'⟩
                    go_wp2_with fail
                    refine bodyPost_ret (v := .tuple #[.slice (some ⟨w9.heap.size, 0, none⟩) 0 0, .bool false]) (by simp [results, Try.results34, go_sem]) rfl ?_
                    rw [HP.out]
                    exact ⟨_, 0, 0, rfl, RI.nil _ _, by (repeat' (first | (with_reducible exact Ext.refl _) | (with_reducible assumption) | (with_reducible refine Ext.alloc ?_ _) | (with_reducible refine Ext.set ?_ ?_ _) | (with_reducible refine Ext.drewN ?_ _) | (with_reducible refine Ext.drew ?_) | (with_reducible refine Ext.trans ?_ (by with_reducible assumption)) | go_size))⟩
                  | true =>
                    have HP := Lib.hid (show prjGo s.ar pj (prV s) (set.drop (k + 1)) out = o by rw [← HG9.out]; exact (prjGo_stay HX.out HQ.out (prjSt_s HOL.out HOR.out (by unfold has0; rw [hlr]; rfl) h11)).symm)
                    go_wp2_with fail
                    (with_reducible refine (c_l17PartB (t := l) (u := r) h11 (RdSig.mk (RI.ext HA.out hE7w)) (RdIc.mk hcap6 HR6.out) (RdI.mk HR7.out) HL.out.2).mono ?_)
                    rintro e8 w8 ⟨rfl, hE8⟩
                    go_wp2_with fail
                    (with_reducible refine (c_SameTermJ (xs := l) (ys := r) hlr (RdI.mk (RI.ext HR6.out hE8)) (RdI.mk (RI.ext HR7.out hE8))).mono ?_)
                    rintro e9 w9 ⟨rfl, hE9'⟩
                    go_wp2_with fail
                    go_roundw
                    case rel => exact ⟨k + 1, by go_num, by omega, ⟨_, _, _, rfl, by omega, Lib.hid ⟨out, (HO7.out.ext hE8).ext hE9', HP.out⟩⟩, Ext.trans hE7b (Ext.trans hE8 hE9')⟩
                    case measure => simp only [intOf]; omega
                | true =>
                  have HP := Lib.hid (show prjGo s.ar pj (prV s) (set.drop (k + 1)) (out ++ [(z : Int)]) = o by rw [← HG9.out]; exact (prjGo_go HX.out HQ.out (prjSt_s HOL.out HOR.out (by unfold has0; rw [h11]; simp) h11)).symm)
                  go_wp2_with fail
                  (with_reducible refine (c_l17PartB (t := l) (u := r) h11 (RdSig.mk (RI.ext HA.out hE7w)) (RdIc.mk hcap6 HR6.out) (RdI.mk HR7.out) HL.out.2).mono ?_)
                  rintro e8 w8 ⟨rfl, hE8⟩
                  have HO8 := Lib.hid (HO7.out.ext hE8)
                  have hx8 := Ext.keep hE8 hx7
                  have hE8b := Ext.trans hE7b hE8
                  have hsz8 := hE8b.size
                  have hbl8 := World.block_lt_of_cell? w8 _ hx8
                  go_wp2_with (at_builtin; go_loud (refine wpList_append_lies _ rfl (.tmp 98) (.tmp 103) 22 rfl w4.heap.size 2 i0 (.int .i64 0) 1 8 Try.underlying22 hii hiz his hib rfl (by decide) _ _ _ rfl (OwI.alloc HO8.out _).2 ⟨w8.heap.size, 0, none⟩ 1 1 [.int .i64 (z : Int)] rfl rfl (one_cells _ _ _) (one_one _) (by decide) (by unfold maxLen; omega) (by omega) (by go_size) _ rfl ?_))
                  intro g4 cap wx hown hg hat hltg
                  have HON := Lib.hid (show OwI wx w4.heap.size (some ⟨g4, 0, none⟩) (n9 + 1) cap (out ++ [(z : Int)]) from ⟨by omega, by simpa using hown⟩)
                  have hob := OwI.ob2 HO8.out
                  have hEx : Ext w4 wx := Ext.grown (hE8b.alloc _) hg (fun b hb => (hob b hb).1)
                  clear hown hg hat hob
                  go_wp2
                  go_roundw
                  case rel => exact ⟨k + 1, by go_num, by omega, ⟨_, _, _, rfl, by omega, Lib.hid ⟨_, HON.out, HP.out⟩⟩, hEx⟩
                  case measure => simp only [intOf]; omega
          · obtain rfl : k = m := by omega
            have HP := Lib.hid (show o = some out by rw [← HG9.out]; exact prjGo_end (by omega))
            go_wp2_with fail
            refine bodyPost_ret (v := .tuple #[.slice A9 n9 c9, .bool true]) (by simp [results, Try.results34, go_sem]) rfl ?_
            rw [HP.out]
            exact ⟨A9, n9, c9, rfl, HO9.out.ri, hEw⟩

end Go.Proofs.Ytccahngnnfohcaa
