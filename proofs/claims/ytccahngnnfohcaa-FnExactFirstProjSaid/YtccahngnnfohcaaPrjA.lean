/- Projections: plain, and sets of pairs. -/
import Derived.Test.YtccahngnnfohcaaPairL
-- rd: RdSyK RdDp RdDq
namespace Go.Proofs.Ytccahngnnfohcaa
open Go.RowKit
set_option linter.unusedSimpArgs false
set_option linter.unusedVariables false

/-- What begins at a place of a right term is one. -/
theorem term_sub {ar t rest : List Int} {p : Nat} {u : Tm} (h : TermP ar t) (hu : u.Ok ar) (hd : t.drop p = u.flat ++ rest) : TermP ar u.flat := by
  obtain ⟨h1, h2, h3, h4⟩ := h
  have hl := congrArg List.length hd
  rw [List.length_drop, List.length_append] at hl
  have hmem : ∀ x ∈ u.flat, x ∈ t := fun x hx => List.mem_of_mem_drop (i := p) (by rw [hd]; exact List.mem_append_left _ hx)
  have hs := scan_flat u hu [] 0
  rw [List.append_nil, scan_zero] at hs
  exact ⟨h1, ⟨flat_pos u, by omega⟩, fun x hx => h3 x (hmem x hx), by rw [hs]; simp⟩
/-- What is known of the pairs of a system. -/
def PairP (ar : List Int) (q : DepP) : Prop := (TermP ar q.l ∧ ∀ x, q.l[0]? = some x → 0 ≤ x) ∧ TermP ar q.r ∧ ∀ x, q.r[0]? = some x → 0 ≤ x
theorem dep_ok {s : Sy} {r : Ru} {k a : Nat} {x : Int} {q : DepP} (hs : SysP s) (hr : s.rs[k]? = some r) (hx : r.r[a]? = some x) (h : depOf s r k a x = some q) : PairP s.ar q := by
  have hrp := hs.2.2 k r hr
  unfold depOf at h
  by_cases h1 : x < 0
  · rw [if_pos h1] at h; cases h
  rw [if_neg h1] at h
  by_cases h2 : dfd s x = false
  · rw [if_pos h2] at h; cases h
  rw [if_neg h2] at h
  by_cases h3 : has s.ar r.l (subT s.ar r.r a).flat = true
  · rw [if_pos h3] at h; cases h
  rw [if_neg h3] at h
  cases h
  have hal := (List.getElem?_eq_some_iff.1 hx).1
  obtain ⟨hok, rest, hdr⟩ := subT_ok hrp.2.1 hal
  refine ⟨⟨hrp.1, hrp.2.2.1⟩, term_sub hrp.2.1 hok hdr, fun y hy => ?_⟩
  have e : r.r[a]? = some y := by
    have h5 : (r.r.drop a)[0]? = some y := by rw [hdr, List.getElem?_append_left (flat_pos _)]; exact hy
    rwa [List.getElem?_drop, Nat.add_zero] at h5
  rw [hx] at e; cases e; omega
theorem prR_ok {s : Sy} {r : Ru} {k : Nat} (hs : SysP s) (hr : s.rs[k]? = some r) : ∀ a, ∀ q ∈ prR s r k a, PairP s.ar q
  | 0, q, h => by cases h
  | a + 1, q, h => by
    cases hx : r.r[a]? with
    | none =>
      have e : prR s r k (a + 1) = prR s r k a := by show prR s r k a ++ _ = _; rw [hx]; simp
      rw [e] at h; exact prR_ok hs hr a q h
    | some x =>
      cases hd : depOf s r k a x with
      | none => rw [prR_none hx hd] at h; exact prR_ok hs hr a q h
      | some q' =>
        rw [prR_some hx hd] at h
        rcases List.mem_append.1 h with h | h
        · exact prR_ok hs hr a q h
        · simp at h; subst h; exact dep_ok hs hr hx hd
theorem prS_ok {s : Sy} (hs : SysP s) : ∀ k, ∀ q ∈ prS s k, PairP s.ar q
  | 0, q, h => by cases h
  | k + 1, q, h => by
    cases hr : s.rs[k]? with
    | none =>
      have e : prS s (k + 1) = prS s k := by show prS s k ++ _ = _; rw [hr]; simp
      rw [e] at h; exact prS_ok hs k q h
    | some r =>
      rw [prS_succ hr] at h
      rcases List.mem_append.1 h with h | h
      · exact prS_ok hs k q h
      · exact prR_ok hs hr _ q h
theorem prB_sys {s : Sy} (h : prB s = true) : SysP s := by
  unfold prB at h; simp at h; exact sysOk_iff.1 h.1
theorem prV_all {s : Sy} (h : prB s = true) : prV s = prAll s := by
  have h1 := h
  unfold prB at h; simp at h
  unfold prV
  rw [if_pos h.1, if_neg (by omega)]
theorem prV_ok {s : Sy} (h : prB s = true) : ∀ q ∈ prV s, PairP s.ar q := fun q hq => by
  rw [prV_all h] at hq; exact prS_ok (prB_sys h) _ q hq
theorem prV_le {s : Sy} (h : prB s = true) : (prV s).length ≤ 64 := by
  rw [prV_all h]; unfold prB at h; simp at h; exact h.2
/-- A set of numbers below a bound: rising. -/
def SetP (n : Nat) (xs : List Int) : Prop := ∀ (i : Nat) (x : Int), xs[i]? = some x → (0 ≤ x ∧ x < n) ∧ ∀ y, 0 < i → xs[i - 1]? = some y → y < x
noncomputable def setB (n : Nat) (xs : List Int) : Bool := @decide (SetP n xs) (Classical.propDecidable _)
theorem setB_t {n : Nat} {xs : List Int} (h : SetP n xs) : setB n xs = true := by simp only [setB, decide_eq_true_eq]; exact h
theorem setB_f {n : Nat} {xs : List Int} (h : ¬ SetP n xs) : setB n xs = false := by simp only [setB, decide_eq_false_iff_not]; exact h
theorem setB_iff {n : Nat} {xs : List Int} : setB n xs = true ↔ SetP n xs := by simp only [setB, decide_eq_true_eq]
theorem setB_out {n i : Nat} {xs : List Int} {x : Int} (hx : xs[i]? = some x) (h : ¬ (0 ≤ x ∧ x < n)) : setB n xs = false := setB_f fun a => h (a i x hx).1
theorem setB_low {n i : Nat} {xs : List Int} {x y : Int} (hx : xs[i]? = some x) (hi : 0 < i) (hy : xs[i - 1]? = some y) (h : x ≤ y) : setB n xs = false := setB_f fun a => by have := (a i x hx).2 y hi hy; omega
/-- So far it is one. -/
def SetTo (n k : Nat) (xs : List Int) : Prop := ∀ (i : Nat) (x : Int), i < k → xs[i]? = some x → (0 ≤ x ∧ x < n) ∧ ∀ y, 0 < i → xs[i - 1]? = some y → y < x
theorem SetTo.succ {n k : Nat} {xs : List Int} {x : Int} (h : SetTo n k xs) (hx : xs[k]? = some x) (h1 : 0 ≤ x ∧ x < n) (h2 : ∀ y, 0 < k → xs[k - 1]? = some y → y < x) : SetTo n (k + 1) xs := fun i y hi hy => by
  rcases Nat.lt_or_ge i k with h3 | h3
  · exact h i y h3 hy
  · obtain rfl : i = k := by omega
    rw [hx] at hy; cases hy; exact ⟨h1, h2⟩
theorem SetTo.all {n : Nat} {xs : List Int} (h : SetTo n xs.length xs) : setB n xs = true := setB_t fun i x hx => h i x (List.getElem?_eq_some_iff.1 hx).1 hx
/-- The argument that a projection selects. -/
noncomputable def argO (ar pj t : List Int) : Option (List Int) := match t[0]? with
  | none => none
  | some f => match pj[f.toNat]? with
    | none => none
    | some i => if i < 0 then none else match tmOf ar t with
      | .node _ us => (us[i.toNat]?).map Tm.flat
theorem arg_at {ar pj t : List Int} (hp : ProjP ar pj) (ht : TermP ar t) (h0 : ∀ x, t[0]? = some x → 0 ≤ x) :
    ∃ (f : Nat) (us : List Tm) (i : Int), t = (Tm.node f us).flat ∧ (Tm.node (f : Int) us).Ok ar ∧ t[0]? = some (f : Int) ∧ pj[f]? = some i ∧ (i < 0 → argO ar pj t = none) ∧ (0 ≤ i → ∃ a, us[i.toNat]? = some a ∧ argO ar pj t = some a.flat ∧ a.Ok ar ∧ TermP ar a.flat) := by
  obtain ⟨hok, hfl⟩ := tmOf_ok ht
  cases htm : tmOf ar t with
  | node f us =>
    rw [htm] at hok hfl
    rw [flat_node] at hfl
    have ht0 : t[0]? = some f := by rw [← hfl]; rfl
    have hf := h0 f ht0
    obtain ⟨k, rfl⟩ := Int.eq_ofNat_of_zero_le hf
    obtain ⟨h1, h2⟩ := Ok_node.1 hok
    have hlt : (k : Int) < ar.length := arI_lt h1
    have hkl : k < pj.length := by rw [hp.2.1]; omega
    have hka : k < ar.length := by omega
    have hpi : pj[k]? = some pj[k] := List.getElem?_eq_getElem hkl
    have hai : ar[k]? = some ar[k] := List.getElem?_eq_getElem hka
    have hbd := hp.2.2 k _ _ hpi hai
    have hul : us.length = ar[k].toNat := by
      unfold arI at h1
      rw [if_neg (by omega), if_pos hlt, Int.toNat_natCast, List.getD_eq_getElem?_getD, hai] at h1
      simp at h1; omega
    refine ⟨k, us, pj[k], by rw [flat_node]; exact hfl.symm, hok, ht0, hpi, fun hneg => ?_, fun hpos => ?_⟩
    · unfold argO; rw [ht0]; simp only; rw [Int.toNat_natCast, hpi]; simp only; rw [if_pos hneg]
    · have hi : pj[k].toNat < us.length := by omega
      have hu := List.getElem?_eq_getElem hi
      have haok : us[pj[k].toNat].Ok ar := OkL_iff.1 h2 _ (List.getElem_mem hi)
      refine ⟨_, hu, ?_, haok, ?_⟩
      · unfold argO; rw [ht0]; simp only; rw [Int.toNat_natCast, hpi]; simp only; rw [if_neg (by omega), htm]; simp only; rw [hu]; rfl
      · exact term_sub ht haok (drop_arg (p := 0) (rest := []) (by rw [List.drop_zero, List.append_nil, flat_node]; exact hfl.symm) hu)
/-- It is the term or a part of it. -/
noncomputable def has0 (ar t u : List Int) : Bool := (t == u) || has ar t u
/-- What a projection says of a pair: nothing, or whether it goes. -/
noncomputable def prjSt (ar pj : List Int) (q : DepP) : Option Bool := match argO ar pj q.l, argO ar pj q.r with
  | some l, some r => if has0 ar l r = true then some (has ar l r) else none
  | _, _ => none
noncomputable def prjGo (ar pj : List Int) (ps : List DepP) : List Int → List Int → Option (List Int)
  | [], out => some out
  | n :: ns, out => match ps[n.toNat]? with
    | none => none
    | some q => match prjSt ar pj q with
      | none => none
      | some true => prjGo ar pj ps ns (out ++ [n])
      | some false => prjGo ar pj ps ns out
noncomputable def prjV (s : Sy) (set pj : List Int) : Option (List Int) := if prB s = true ∧ setB (prV s).length set = true ∧ projOk s.ar pj = true then prjGo s.ar pj (prV s) set [] else none
section
variable {ar pj set out : List Int} {ps : List DepP} {k : Nat} {n : Nat} {q : DepP}
theorem prjSt_l (h : argO ar pj q.l = none) : prjSt ar pj q = none := by unfold prjSt; rw [h]
theorem prjSt_r (h : argO ar pj q.r = none) : prjSt ar pj q = none := by unfold prjSt; rw [h]; cases argO ar pj q.l <;> rfl
theorem prjSt_n {l r : List Int} (hl : argO ar pj q.l = some l) (hr : argO ar pj q.r = some r) (h : has0 ar l r = false) : prjSt ar pj q = none := by unfold prjSt; rw [hl, hr]; simp [h]
theorem prjSt_s {l r : List Int} {b : Bool} (hl : argO ar pj q.l = some l) (hr : argO ar pj q.r = some r) (h : has0 ar l r = true) (hb : has ar l r = b) : prjSt ar pj q = some b := by unfold prjSt; rw [hl, hr]; simp [h, hb]
theorem prjGo_none (hs : set[k]? = some (n : Int)) (hq : ps[n]? = some q) (h : prjSt ar pj q = none) : prjGo ar pj ps (set.drop k) out = none := by
  obtain ⟨hl, e⟩ := List.getElem?_eq_some_iff.1 hs
  rw [List.drop_eq_getElem_cons hl, e, prjGo, Int.toNat_natCast, hq]; simp only; rw [h]
theorem prjGo_go (hs : set[k]? = some (n : Int)) (hq : ps[n]? = some q) (h : prjSt ar pj q = some true) : prjGo ar pj ps (set.drop k) out = prjGo ar pj ps (set.drop (k + 1)) (out ++ [(n : Int)]) := by
  obtain ⟨hl, e⟩ := List.getElem?_eq_some_iff.1 hs
  rw [List.drop_eq_getElem_cons hl, e, prjGo, Int.toNat_natCast, hq]; simp only; rw [h]
theorem prjGo_stay (hs : set[k]? = some (n : Int)) (hq : ps[n]? = some q) (h : prjSt ar pj q = some false) : prjGo ar pj ps (set.drop k) out = prjGo ar pj ps (set.drop (k + 1)) out := by
  obtain ⟨hl, e⟩ := List.getElem?_eq_some_iff.1 hs
  rw [List.drop_eq_getElem_cons hl, e, prjGo, Int.toNat_natCast, hq]; simp only; rw [h]
theorem prjGo_end (hk : set.length ≤ k) : prjGo ar pj ps (set.drop k) out = some out := by
  rw [List.drop_of_length_le hk]; rfl
end
theorem prjV_no1 {s : Sy} {set pj : List Int} (h : prB s = false) : prjV s set pj = none := by unfold prjV; rw [if_neg (by rw [h]; simp)]
theorem prjV_no2 {s : Sy} {set pj : List Int} (h : setB (prV s).length set = false) : prjV s set pj = none := by unfold prjV; rw [if_neg (by rw [h]; simp)]
theorem prjV_no3 {s : Sy} {set pj : List Int} (h : projOk s.ar pj = false) : prjV s set pj = none := by unfold prjV; rw [if_neg (by rw [h]; simp)]
theorem prjV_yes {s : Sy} {set pj : List Int} (h1 : prB s = true) (h2 : setB (prV s).length set = true) (h3 : projOk s.ar pj = true) : prjV s set pj = prjGo s.ar pj (prV s) set [] := by unfold prjV; rw [if_pos ⟨h1, h2, h3⟩]
set_option maxHeartbeats 1000000 in
theorem c_setOk {v0 : Value} {xs : List Int} {m : Nat} {b : Bool} {w : World} (hb : setB m xs = b) (h0 : RdI w v0 xs) (hm : m ≤ 4194304) :
    Calls Try.prog 54 #[v0, .int .i64 (m : Int)] w fun e w' => e = .returned (.bool b) ∧ Ext w w' := by
  subst hb
  obtain ⟨A, n, c, rfl, ha⟩ := h0
  have hn := ha.le
  have hl := ha.len
  have HA := Lib.hid ha
  clear ha
  go_enter Try.func54, Try.ntmps54
  go_wp2
  go_loopw [9] (fun i wr => ∃ k : Nat, i = .int .i64 k ∧ k ≤ n ∧ Hid (SetTo m k xs) ∧ Ext w wr) (fun i _ => n - (intOf i).toNat)
  case atStart => exact ⟨0, rfl, Nat.zero_le _, Lib.hid fun i x hi => by omega, Ext.refl _⟩
  case round =>
    obtain ⟨k, rfl, hk, hT, hE⟩ := hrel
    by_cases hlt : k < n
    · obtain ⟨b, o, x, rfl, hx, hcx⟩ := RI.at_ (RI.ext HA.out hE) hlt
      have HX := Lib.hid hx
      have hki : (k : Int) < (n : Int) := by omega
      have hk0 : (0 : Int) ≤ (k : Int) := by omega
      clear hx
      by_cases hx0 : x < 0
      · have HR := Lib.hid (setB_out HX.out (show ¬ (0 ≤ x ∧ x < (m : Int)) by omega))
        go_wp2
        go_ret
        exact ⟨ret_bool HR.out.symm, hE⟩
      · by_cases hxm : x ≥ (m : Int)
        · have HR := Lib.hid (setB_out HX.out (show ¬ (0 ≤ x ∧ x < (m : Int)) by omega))
          go_wp2
          go_ret
          exact ⟨ret_bool HR.out.symm, hE⟩
        · by_cases hkz : k = 0
          · subst hkz
            have HN := Lib.hid (SetTo.succ hT.out HX.out ⟨by omega, by omega⟩ fun y h => by omega)
            have hcx' : wr.cell? ⟨b, o, none⟩ = some (.int .i64 x) := by simpa using hcx
            go_wp2
            go_roundw
            case rel => exact ⟨1, by go_num, by omega, HN, hE⟩
            case measure => simp only [intOf]; omega
          · obtain ⟨b', o', y, e, hy, hcy⟩ := RI.at_ (RI.ext HA.out hE) (show k - 1 < n by omega)
            cases e
            have HY := Lib.hid hy
            clear hy
            have hkp : (k : Int) > 0 := by omega
            have hkq : 0 < k := by omega
            have hk1 : (k : Int) - 1 = ((k - 1 : Nat) : Int) := by omega
            have hw1 : IntKind.i64.wrap ((k : Int) - 1) = ((k - 1 : Nat) : Int) := by rw [IntWalk.i64_in _ (by omega)]; omega
            have hk1i : ((k - 1 : Nat) : Int) < (n : Int) := by omega
            have hk10 : (0 : Int) ≤ ((k - 1 : Nat) : Int) := by omega
            by_cases hxy : x ≤ y
            · have HR := Lib.hid (setB_low (n := m) HX.out (by omega) HY.out hxy)
              go_wp2
              go_ret
              exact ⟨ret_bool HR.out.symm, hE⟩
            · have HN := Lib.hid (SetTo.succ hT.out HX.out ⟨by omega, by omega⟩ fun y' _ hy' => by rw [HY.out] at hy'; cases hy'; omega)
              go_wp2
              go_roundw
              case rel => exact ⟨k + 1, by go_num, by omega, HN, hE⟩
              case measure => simp only [intOf]; omega
    · have hkn : k = n := by omega
      have HR := Lib.hid (SetTo.all (n := m) (xs := xs) (by rw [hl, ← hkn]; exact hT.out))
      go_wp2
      go_ret
      exact ⟨ret_bool HR.out.symm, hE⟩
set_option maxHeartbeats 1000000 in
theorem c_l18Set {v0 : Value} {xs : List Int} {m : Nat} {b : Bool} {w : World} (hb : setB m xs = b) (h0 : RdI w v0 xs) (hm : m ≤ 4194304) :
    Calls Try.prog 49 #[v0, .int .i64 (m : Int)] w fun e w' => e = .returned (.bool b) ∧ Ext w w' := by
  subst hb
  obtain ⟨A, n, c, rfl, ha⟩ := h0
  have hn := ha.le
  have hl := ha.len
  have HA := Lib.hid ha
  clear ha
  go_enter Try.func49, Try.ntmps49
  go_wp2
  go_loopw [5, 6] (fun lv i wr => ∃ k : Nat, i = .int .i64 k ∧ k ≤ n ∧ (∃ z : Int, lv = .int .i64 z ∧ (-1 ≤ z ∧ z < 4194304) ∧ Hid (SetTo m k xs ∧ (k = 0 → z = -1) ∧ (0 < k → xs[k - 1]? = some z))) ∧ Ext w wr) (fun _ i _ => n - (intOf i).toNat)
  case atStart => exact ⟨0, rfl, Nat.zero_le _, ⟨-1, rfl, by omega, Lib.hid ⟨fun i x hi => by omega, fun _ => rfl, fun h => by omega⟩⟩, Ext.refl _⟩
  case round =>
    obtain ⟨k, rfl, hk, ⟨z, rfl, hz, hT⟩, hE⟩ := hrel
    by_cases hlt : k < n
    · obtain ⟨b, o, x, rfl, hx, hcx⟩ := RI.at_ (RI.ext HA.out hE) hlt
      have HX := Lib.hid hx
      have hki : (k : Int) < (n : Int) := by omega
      have hk0 : (0 : Int) ≤ (k : Int) := by omega
      have hw1 : IntKind.i64.wrap (z + 1) = z + 1 := IntWalk.i64_in _ (by omega)
      have hw2 : IntKind.i64.wrap ((m : Int) - 1) = (m : Int) - 1 := IntWalk.i64_in _ (by omega)
      clear hx
      by_cases hin : z + 1 ≤ x ∧ x ≤ (m : Int) - 1
      · have HN := Lib.hid (SetTo.succ hT.out.1 HX.out ⟨by omega, by omega⟩ fun y h1 hy => by rw [hT.out.2.2 h1] at hy; cases hy; omega)
        go_wp2_with fail
        (with_reducible refine (c_l1In_t hin).mono ?_)
        rintro e2 w2 ⟨rfl, hE2⟩
        have hcx2 := Ext.keep hE2 hcx
        have hE3 := Ext.trans hE hE2
        go_wp2
        go_roundw
        case rel => exact ⟨k + 1, by go_num, by omega, ⟨x, rfl, by omega, Lib.hid ⟨HN.out, fun h => by omega, fun _ => by rw [Nat.add_sub_cancel]; exact HX.out⟩⟩, hE3⟩
        case measure => simp only [intOf]; omega
      · have HR := Lib.hid (show setB m xs = false by
          by_cases h1 : 0 ≤ x ∧ x < (m : Int)
          · by_cases hkz : k = 0
            · have := hT.out.2.1 hkz; omega
            · exact setB_low HX.out (by omega) (hT.out.2.2 (by omega)) (by omega)
          · exact setB_out HX.out h1)
        go_wp2_with fail
        (with_reducible refine (c_l1In_f hin).mono ?_)
        rintro e2 w2 ⟨rfl, hE2⟩
        have hE3 := Ext.trans hE hE2
        go_wp2
        go_ret
        exact ⟨ret_bool HR.out.symm, hE3⟩
    · have hkn : k = n := by omega
      have HR := Lib.hid (SetTo.all (n := m) (xs := xs) (by rw [hl, ← hkn]; exact hT.out.1))
      go_wp2
      go_ret
      exact ⟨ret_bool HR.out.symm, hE⟩

end Go.Proofs.Ytccahngnnfohcaa
