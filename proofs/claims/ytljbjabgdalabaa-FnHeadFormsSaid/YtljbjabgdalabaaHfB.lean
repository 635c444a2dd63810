/- Several texts in one: DepT, DepI, DepS, DepU, PairE, DepJ, PairL. -/
import Derived.Test.YtljbjabgdalabaaArgs
import Derived.Test.YtljbjabgdalabaaOpenT
import Derived.Test.YtljbjabgdalabaaMDep
import Derived.Test.YtljbjabgdalabaaSysOk
import Derived.Test.YtljbjabgdalabaaWraps
import Derived.Test.YtljbjabgdalabaaPG
import Derived.Test.YtljbjabgdalabaaHeld
import Derived.Test.YtljbjabgdalabaaCopy
import Derived.StillTailTactics
import Derived.Test.YtljbjabgdalabaaParts
import Derived.Test.YtljbjabgdalabaaTurn
-- rd: RdDp RawDp RdSyK RdDq
namespace Go.Proofs.Ytljbjabgdalabaa
open Go.RowKit
set_option linter.unusedSimpArgs false
set_option linter.unusedVariables false

/-! Pairs as the laws hand them on. -/
/-- A pair, its terms with capacities. -/
def RdDp (w : World) (v : Value) (p : DepP) : Prop := ∃ A n c B m d, v = .agg #[.slice A n c, .slice B m d, .int .i64 p.rule, .int .i64 p.at_] ∧ (n ≤ c ∧ c ≤ 9223372036854775807) ∧ (m ≤ d ∧ d ≤ 9223372036854775807) ∧ RI w A n p.l ∧ RI w B m p.r
theorem RdDp.mk {w : World} {A B : Option Addr} {n c m d : Nat} {p : DepP} (k1 : n ≤ c ∧ c ≤ 9223372036854775807) (k2 : m ≤ d ∧ d ≤ 9223372036854775807) (h1 : RI w A n p.l) (h2 : RI w B m p.r) : RdDp w (.agg #[.slice A n c, .slice B m d, .int .i64 p.rule, .int .i64 p.at_]) p :=
  ⟨A, n, c, B, m, d, rfl, k1, k2, h1, h2⟩
theorem RdDp.ext {w w' : World} {v : Value} {p : DepP} (h : RdDp w v p) (k : Ext w w') : RdDp w' v p := by
  obtain ⟨A, n, c, B, m, d, e, k1, k2, h1, h2⟩ := h
  exact ⟨A, n, c, B, m, d, e, k1, k2, h1.ext k, h2.ext k⟩
/-- A pair, nothing of capacities. -/
def RdDq (w : World) (v : Value) (p : DepP) : Prop := ∃ A n c B m d, v = .agg #[.slice A n c, .slice B m d, .int .i64 p.rule, .int .i64 p.at_] ∧ RI w A n p.l ∧ RI w B m p.r
theorem RdDq.mk {w : World} {A B : Option Addr} {n c m d : Nat} {p : DepP} (h1 : RI w A n p.l) (h2 : RI w B m p.r) : RdDq w (.agg #[.slice A n c, .slice B m d, .int .i64 p.rule, .int .i64 p.at_]) p :=
  ⟨A, n, c, B, m, d, rfl, h1, h2⟩
theorem RdDq.ext {w w' : World} {v : Value} {p : DepP} (h : RdDq w v p) (k : Ext w w') : RdDq w' v p := by
  obtain ⟨A, n, c, B, m, d, e, h1, h2⟩ := h
  exact ⟨A, n, c, B, m, d, e, h1.ext k, h2.ext k⟩
theorem RdDp.rd {w : World} {v : Value} {p : DepP} (h : RdDp w v p) : RdDq w v p := by
  obtain ⟨A, n, c, B, m, d, e, k1, k2, h1, h2⟩ := h
  exact ⟨A, n, c, B, m, d, e, h1, h2⟩
def RawDp (w : World) (v : Value) (p : DepP) : Prop := ∃ A n c B m d, v = .agg #[.slice A n c, .slice B m d, .int .i64 p.rule, .int .i64 p.at_] ∧ RJ w A n p.l ∧ RJ w B m p.r
theorem RawDp.mk {w : World} {A B : Option Addr} {n c m d : Nat} {p : DepP} (h1 : RJ w A n p.l) (h2 : RJ w B m p.r) : RawDp w (.agg #[.slice A n c, .slice B m d, .int .i64 p.rule, .int .i64 p.at_]) p :=
  ⟨A, n, c, B, m, d, rfl, h1, h2⟩
def szDp (left : Int) (t : DepP) : Int := szI (szI left t.l.length) t.r.length
theorem szDp_bd (left : Int) (t : DepP) (h : -1 ≤ left ∧ left ≤ 1048576) : -1 ≤ szDp left t ∧ szDp left t ≤ 1048576 := szI_bd _ _ (szI_bd _ _ h)
theorem szDp_ok {left : Int} {t : DepP} (h0 : -1 ≤ left) (h : 0 ≤ szDp left t) : t.l.length ≤ left ∧ t.r.length ≤ left ∧ szDp left t ≤ left := by
  unfold szDp at h ⊢
  have h1 := szI_nonneg h
  have h2 := szI_nonneg (left := left) (n := t.l.length) (by omega)
  omega
/-- A pair of the call's own. -/
def NewDp (w : World) (p : DepP) (e : Ending) (w' : World) : Prop :=
  ∃ A n c B m d, e = .returned (.agg #[.slice A n c, .slice B m d, .int .i64 p.rule, .int .i64 p.at_]) ∧ OwI w' w.heap.size A n c p.l ∧ OwI w' w.heap.size B m d p.r ∧ Ext w w'
theorem NewDp.out {w w' : World} {p : DepP} {e : Ending} (h : NewDp w p e w') : ∃ v, e = .returned v ∧ RdDp w' v p ∧ Ext w w' := by
  obtain ⟨A, n, c, B, m, d, e, h1, h2, h3⟩ := h
  exact ⟨_, e, RdDp.mk h1.cap h2.cap h1.ri h2.ri, h3⟩

theorem dp_f1 {p q : DepP} (h : (!p.l == q.l) = true) : ¬ p = q := fun e => by subst e; simp at h
theorem dp_f2 {p q : DepP} (h : (!p.r == q.r) = true) : ¬ p = q := fun e => by subst e; simp at h
section
open Go.ChangeShapes Go.WideShapes Go.ChangeAt Go.Joins Go.Deep
variable {H : Type} {enc : TypeId × Value → H} {w : World} {base b0 : Nat} {held : Bool} {r : Reach}
end

/-! Pairs of rules, by the program. -/
/-- A pair, or none. -/
def NewDo (w : World) (o : Option DepP) (e : Ending) (w' : World) : Prop := ∃ (A : Option Addr) (n c : Nat) (B : Option Addr) (m d : Nat) (k a : Int), e = .returned (.tuple #[.agg #[.slice A n c, .slice B m d, .int .i64 k, .int .i64 a], .bool o.isSome]) ∧ (∀ q, o = some q → k = q.rule ∧ a = q.at_ ∧ RI w' A n q.l ∧ RI w' B m q.r) ∧ Ext w w'

/-! Pairs of rules, by the reference. -/
theorem RI.takeK {w : World} {A : Option Addr} {n k : Nat} {xs : List Int} (h : RI w A n xs) (hk : k ≤ n) : RI w A k (xs.take k) := by
  refine ⟨⟨by rw [List.length_take, h.len]; omega, by have := h.le; omega⟩, fun h0 => ?_⟩
  obtain ⟨b, o, hA, hc⟩ := h.2 (by omega)
  refine ⟨b, o, hA, fun j x hx => hc j x ?_⟩
  rw [List.getElem?_take] at hx
  split at hx
  · exact hx
  · cases hx
theorem RI.dropB {w : World} {b o n k : Nat} {xs : List Int} (h : RI w (some ⟨b, o, none⟩) n xs) (hk : k ≤ n) : RI w (some ⟨b, o + k, none⟩) (n - k) (xs.drop k) := by
  refine ⟨⟨by rw [List.length_drop, h.len], by have := h.le; omega⟩, fun h0 => ?_⟩
  obtain ⟨b', o', e, hc⟩ := h.2 (by omega)
  cases e
  refine ⟨b, o + k, rfl, fun j x hx => ?_⟩
  rw [List.getElem?_drop] at hx
  rw [Nat.add_assoc]; exact hc _ x hx
/-- A list with a number in it. -/
def InTo (xs ys : List Int) (x : Int) : Prop := ∀ y, y ∈ ys ↔ y ∈ xs ∨ y = x
theorem InTo.mid {xs : List Int} {x : Int} (k : Nat) : InTo xs ((xs.take k ++ [x]) ++ xs.drop k) x := by
  intro y
  have h : y ∈ xs ↔ y ∈ xs.take k ∨ y ∈ xs.drop k := by
    conv => lhs; rw [← List.take_append_drop k xs]
    exact List.mem_append
  simp only [List.mem_append, List.mem_singleton, h]
  constructor
  · rintro ((h1 | h1) | h1)
    · exact .inl (.inl h1)
    · exact .inr h1
    · exact .inl (.inr h1)
  · rintro ((h1 | h1) | h1)
    · exact .inl (.inl h1)
    · exact .inr h1
    · exact .inl (.inr h1)
theorem InTo.there {xs : List Int} {x : Int} (h : x ∈ xs) : InTo xs xs x := fun y => ⟨.inl, fun h1 => h1.elim id (fun e => e ▸ h)⟩
def NewTo (w : World) (xs : List Int) (x : Int) (e : Ending) (w' : World) : Prop := ∃ (A : Option Addr) (n c : Nat) (ys : List Int), e = .returned (.slice A n c) ∧ n ≤ xs.length + 1 ∧ (n ≤ c ∧ c ≤ 9223372036854775807) ∧ RI w' A n ys ∧ InTo xs ys x ∧ Ext w w'
set_option maxRecDepth 100000 in
set_option maxHeartbeats 4000000 in
theorem c_l1Into {A : Option Addr} {n c : Nat} {xs : List Int} {x : Int} {w : World} (h0 : RI w A n xs) (hc : n ≤ c ∧ c ≤ 9223372036854775807) (hn : n ≤ 1000) :
    Calls Try.prog 92 #[.slice A n c, .int .i64 x] w (NewTo w xs x) := by
  have hl := h0.len
  have HA := Lib.hid h0
  have HL := Lib.hid hl
  obtain ⟨i0, hii, hiz, his, hib⟩ := info_parts int64_info
  obtain ⟨hnc, hc63⟩ := hc
  clear h0 hl
  go_enter Try.func92, Try.ntmps92
  go_wp2
  go_loopw [5] (fun i wr => ∃ k : Nat, i = .int .i64 k ∧ k ≤ n ∧ Ext w wr) (fun i _ => n - (intOf i).toNat)
  case atStart => exact ⟨0, rfl, Nat.zero_le _, Ext.refl _⟩
  case round =>
    obtain ⟨k, rfl, hk, hE⟩ := hrel
    have hk0 : (0 : Int) ≤ (k : Int) := by omega
    have hkc : (k : Int) ≤ (c : Int) := by omega
    have hkn : (k : Int) ≤ (n : Int) := by omega
    by_cases hlt : k < n
    · obtain ⟨b, o, z, rfl, hz, hcz⟩ := RI.at_ (RI.ext HA.out hE) hlt
      have hki : (k : Int) < (n : Int) := by omega
      by_cases hzx : z < x
      · go_wp2
        go_roundw
        case rel => exact ⟨k + 1, by go_num, by omega, hE⟩
        case measure => simp only [intOf]; omega
      · by_cases hze : z = x
        · subst hze
          have HM := Lib.hid (InTo.there (List.mem_of_getElem? hz))
          go_wp2
          go_ret
          exact ⟨_, n, c, xs, rfl, by rw [HL.out]; omega, ⟨hnc, hc63⟩, RI.ext HA.out hE, HM.out, hE⟩
        · have hzb : (z == x) = false := by simpa using hze
          have HT := Lib.hid (RI.takeK (RI.ext HA.out hE) hk)
          have HD := Lib.hid (RI.dropB (RI.ext HA.out hE) hk)
          have hck : ¬ c = k := by omega
          go_wp2_with fail
          (with_reducible refine (c_l1Copy HT.out).mono ?_)
          rintro e2 w2 ⟨A2, n2, c2, rfl, hO2, hE2⟩
          have hn2 : n2 = k := by rw [← hO2.len, HT.out.len]
          subst hn2
          have HO2 := Lib.hid hO2
          have hsz2 := hE2.size
          clear hO2
          go_wp2_with (at_builtin; go_loud (refine wpList_append_lies _ rfl (.tmp 37) (.tmp 39) 27 rfl wr.heap.size 2 i0 (.int .i64 0) 1 8 Try.underlying27 hii hiz his hib rfl (by decide) _ _ _ rfl (OwI.alloc HO2.out _).2 ⟨w2.heap.size, 0, none⟩ 1 1 [.int .i64 x] rfl rfl (one_cells _ _ _) (one_one _) (by decide) (by unfold maxLen; omega) (by omega) (by go_size) _ rfl ?_))
          intro g cap w3 hown hg hat hltg
          have HO3 := Lib.hid (show OwI w3 wr.heap.size (some ⟨g, 0, none⟩) (n2 + 1) cap (xs.take n2 ++ [x]) from ⟨by omega, by simpa using hown⟩)
          have hob := OwI.ob2 HO2.out
          have hE3 : Ext wr w3 := Ext.grown (hE2.alloc _) hg (fun b hb => (hob b hb).1)
          clear hown hg hat hob
          have hcap3 := HO3.out.cap
          go_wp2_with (at_builtin; go_loud (refine wpList_append_ints rfl (.tmp 41) (.tmp 44) 27 rfl i0 Try.underlying27 hii hiz his hib (D := wr.heap.size) rfl HO3.out rfl (RI.ext HD.out hE3) (by omega) (by have := hE3.size; omega) hcap3.1 ?_))
          intro A4 c4 w4 hO4 hg4 hat4
          have HO4 := Lib.hid hO4
          have hob3 := OwI.ob2 HO3.out
          have hE4 : Ext wr w4 := Ext.grown hE3 hg4 (fun b hb => (hob3 b hb).1)
          clear hO4 hg4 hat4 hob3
          go_wp2
          go_ret
          exact ⟨A4, _, c4, _, rfl, by rw [HL.out]; omega, HO4.out.cap, HO4.out.ri, (by have h := InTo.mid (xs := xs) (x := x) n2; rwa [List.append_assoc, List.singleton_append] at h), Ext.trans hE hE4⟩
    · have hkn' : k = n := by omega
      subst hkn'
      have HT := Lib.hid (RI.ext HA.out hE)
      have HIN := Lib.hid (show InTo xs (xs ++ [x]) x from by
        have h := InTo.mid (xs := xs) (x := x) k
        rwa [List.take_of_length_le (by rw [HL.out]; exact Nat.le_refl _), List.drop_of_length_le (by rw [HL.out]; exact Nat.le_refl _), List.append_nil] at h)
      go_wp2_with fail
      (with_reducible refine (c_l1Copy HT.out).mono ?_)
      rintro e2 w2 ⟨A2, n2, c2, rfl, hO2, hE2⟩
      have hn2 : n2 = k := by rw [← hO2.len, HT.out.len]
      subst hn2
      have HO2 := Lib.hid hO2
      have hsz2 := hE2.size
      clear hO2
      go_wp2_with (at_builtin; go_loud (refine wpList_append_lies _ rfl (.tmp 37) (.tmp 39) 27 rfl wr.heap.size 2 i0 (.int .i64 0) 1 8 Try.underlying27 hii hiz his hib rfl (by decide) _ _ _ rfl (OwI.alloc HO2.out _).2 ⟨w2.heap.size, 0, none⟩ 1 1 [.int .i64 x] rfl rfl (one_cells _ _ _) (one_one _) (by decide) (by unfold maxLen; omega) (by omega) (by go_size) _ rfl ?_))
      intro g cap w3 hown hg hat hltg
      have HO3 := Lib.hid (show OwI w3 wr.heap.size (some ⟨g, 0, none⟩) (n2 + 1) cap (xs ++ [x]) from ⟨by omega, by simpa using hown⟩)
      have hob := OwI.ob2 HO2.out
      have hE3 : Ext wr w3 := Ext.grown (hE2.alloc _) hg (fun b hb => (hob b hb).1)
      clear hown hg hat hob
      by_cases hcn : c = n2
      · subst hcn
        have hcap3 := HO3.out.cap
        go_wp2_with (at_builtin; go_loud (refine wpList_append_ints rfl (.tmp 41) (.tmp 44) 27 rfl i0 Try.underlying27 hii hiz his hib (D := wr.heap.size) rfl HO3.out rfl (RI.nil _ _) (by omega) (by have := hE3.size; omega) hcap3.1 ?_))
        intro A4 c4 w4 hO4 hg4 hat4
        have HO4 := Lib.hid hO4
        have hob3 := OwI.ob2 HO3.out
        have hE4 : Ext wr w4 := Ext.grown hE3 hg4 (fun b hb => (hob3 b hb).1)
        clear hO4 hg4 hat4 hob3
        go_wp2
        go_ret
        exact ⟨A4, _, c4, _, rfl, by rw [HL.out]; omega, HO4.out.cap, HO4.out.ri, HIN.out, Ext.trans hE hE4⟩
      · have hlc : n2 < c := by omega
        cases A with
        | none =>
          have hcap3 := HO3.out.cap
          go_wp2_with (at_builtin; go_loud (refine wpList_append_ints rfl (.tmp 41) (.tmp 44) 27 rfl i0 Try.underlying27 hii hiz his hib (D := wr.heap.size) rfl HO3.out rfl (RI.nil _ _) (by omega) (by have := hE3.size; omega) hcap3.1 ?_))
          intro A4 c4 w4 hO4 hg4 hat4
          have HO4 := Lib.hid hO4
          have hob3 := OwI.ob2 HO3.out
          have hE4 : Ext wr w4 := Ext.grown hE3 hg4 (fun b hb => (hob3 b hb).1)
          clear hO4 hg4 hat4 hob3
          go_wp2
          go_ret
          exact ⟨A4, _, c4, _, rfl, by rw [HL.out]; omega, HO4.out.cap, HO4.out.ri, HIN.out, Ext.trans hE hE4⟩
        | some p =>
          have hcap3 := HO3.out.cap
          go_wp2_with (at_builtin; go_loud (refine wpList_append_ints rfl (.tmp 41) (.tmp 44) 27 rfl i0 Try.underlying27 hii hiz his hib (D := wr.heap.size) rfl HO3.out rfl (RI.nil _ _) (by omega) (by have := hE3.size; omega) hcap3.1 ?_))
          intro A4 c4 w4 hO4 hg4 hat4
          have HO4 := Lib.hid hO4
          have hob3 := OwI.ob2 HO3.out
          have hE4 : Ext wr w4 := Ext.grown hE3 hg4 (fun b hb => (hob3 b hb).1)
          clear hO4 hg4 hat4 hob3
          go_wp2
          go_ret
          exact ⟨A4, _, c4, _, rfl, by rw [HL.out]; omega, HO4.out.cap, HO4.out.ri, HIN.out, Ext.trans hE hE4⟩
/-- The first rules' heads. -/
def HeadsTo (s : Sy) (k : Nat) (ys : List Int) : Prop := ∀ y, y ∈ ys ↔ ∃ (j : Nat) (r : Ru), j < k ∧ s.rs[j]? = some r ∧ r.l[0]? = some y
theorem HeadsTo.succ {s : Sy} {k : Nat} {xs ys : List Int} {r : Ru} {x : Int} (h : HeadsTo s k xs) (hr : s.rs[k]? = some r) (hx : r.l[0]? = some x) (hi : InTo xs ys x) : HeadsTo s (k + 1) ys := by
  intro y
  rw [hi y, h y]
  constructor
  · rintro (⟨j, q, h1, h2, h3⟩ | rfl)
    · exact ⟨j, q, by omega, h2, h3⟩
    · exact ⟨k, r, by omega, hr, hx⟩
  · rintro ⟨j, q, h1, h2, h3⟩
    rcases Nat.lt_or_ge j k with h4 | h4
    · exact .inl ⟨j, q, h4, h2, h3⟩
    · obtain rfl : j = k := by omega
      rw [hr] at h2; cases h2
      rw [hx] at h3; cases h3
      exact .inr rfl
theorem HeadsTo.all {s : Sy} {ys : List Int} (h : HeadsTo s s.rs.length ys) (x : Int) : decide (x ∈ ys) = dfd s x := by
  cases hd : dfd s x with
  | true =>
    obtain ⟨r, hr, hx⟩ := dfd_iff.1 hd
    obtain ⟨j, hj, rfl⟩ := List.mem_iff_getElem.1 hr
    exact decide_eq_true ((h x).2 ⟨j, _, hj, List.getElem?_eq_getElem hj, hx⟩)
  | false =>
    refine decide_eq_false fun hm => ?_
    obtain ⟨j, r, h1, h2, h3⟩ := (h x).1 hm
    rw [dfd_t h2 h3] at hd; cases hd
def NewDf (w : World) (s : Sy) (e : Ending) (w' : World) : Prop := ∃ (A : Option Addr) (n c : Nat) (ys : List Int), e = .returned (.slice A n c) ∧ RI w' A n ys ∧ HeadsTo s s.rs.length ys ∧ Ext w w'
set_option maxRecDepth 100000 in
set_option maxHeartbeats 4000000 in
theorem c_l6Defined {v0 : Value} {s : Sy} {w : World} (h0 : RdSyC w v0 s) (hs : SysP s) :
    Calls Try.prog 78 #[v0] w (NewDf w s) := by
  obtain ⟨A, n, c, B, m, d, rfl, ha, hb⟩ := h0
  have hm := hb.le
  have HB := Lib.hid hb
  have HL := Lib.hid hb.len
  have HS := Lib.hid hs
  have hm12 : m ≤ 12 := by rw [← hb.len]; exact hs.2.1
  clear ha hb hs
  go_enter Try.func78, Try.ntmps78
  go_wp2_with fail
  obtain ⟨wo, hwo⟩ : ∃ wo, wo = (w.alloc (.cells #[.slice A n c, .slice B m d] 49)).alloc (.cells #[] 2) := ⟨_, rfl⟩
  have hw1 : wo.cell? ⟨w.heap.size, 1, none⟩ = some (.slice B m d) := by rw [hwo]; simp [go_sem]
  have hEo : Ext w wo := by rw [hwo]; exact extX
  rw [← hwo]
  clear hwo
  go_loopw [3, 4] (fun t i wr => ∃ k : Nat, i = .int .i64 k ∧ k ≤ m ∧ (∃ A n c, t = .slice A n c ∧ n ≤ k ∧ Hid (n ≤ c ∧ c ≤ 9223372036854775807) ∧ Hid (∃ ys, RI wr A n ys ∧ HeadsTo s k ys)) ∧ Ext wo wr) (fun _ i _ => m - (intOf i).toNat)
  case atStart => exact ⟨0, rfl, Nat.zero_le _, ⟨_, 0, 0, rfl, Nat.le_refl _, Lib.hid ⟨by omega, by omega⟩, Lib.hid ⟨[], RI.nil _ _, fun y => ⟨fun h => (by cases h), fun ⟨j, r, h, _⟩ => by omega⟩⟩⟩, Ext.refl _⟩
  case round =>
    obtain ⟨k, rfl, hk, ⟨A3, n3, c3, rfl, hn3, hc3, hY⟩, hE⟩ := hrel
    have hEw : Ext w wr := Ext.trans hEo hE
    have hr1 := Ext.keep hE hw1
    by_cases hlt : k < m
    · obtain ⟨b, o, r, A1, m1, c1, A2, m2, c2, rfl, hx, hd1, hd2, hri1, hri2, hcap1, hcap2⟩ := RR.at_ (RR.ext HB.out hEw) hlt
      have hlr : 1 ≤ r.l.length := (HS.out.2.2 k r hx).1.2.1.1
      have hm1 : 0 < m1 := by have := hri1.len; omega
      obtain ⟨b1, o1, y, rfl, hy, hcy⟩ := RI.at_ hri1 hm1
      rw [Nat.add_zero] at hcy
      obtain ⟨ys, hRY, hHY⟩ := hY.out
      have HRY := Lib.hid hRY
      have HX := Lib.hid hx
      have HYY := Lib.hid hy
      have HHY := Lib.hid hHY
      have hYL : ys.length = n3 := hRY.len
      have HYL := Lib.hid hYL
      have hki : (k : Int) < (m : Int) := by omega
      have hk0 : (0 : Int) ≤ (k : Int) := by omega
      have hm1i : (0 : Int) < (m1 : Int) := by omega
      have hm1n : m1 ≠ 0 := by omega
      clear hx hy hRY hHY hri1 hri2 hcap1 hcap2 hYL
      go_wp2_with fail
      (with_reducible refine (c_l1Into (x := y) HRY.out hc3.out (by omega)).mono ?_)
      rintro e2 w2 ⟨A4, n4, c4, zs, rfl, hn4, hc4, hr4, hin, hE2⟩
      have HN := Lib.hid (HeadsTo.succ HHY.out HX.out HYY.out hin)
      have HR4 := Lib.hid hr4
      have HC4 := Lib.hid hc4
      have hn4' : n4 ≤ k + 1 := by have := HYL.out; omega
      clear hr4 hin hc4
      go_wp2
      go_roundw
      case rel => exact ⟨k + 1, by go_num, by omega, ⟨A4, n4, c4, rfl, hn4', HC4, Lib.hid ⟨zs, HR4.out, HN.out⟩⟩, Ext.trans hE hE2⟩
      case measure => simp only [intOf]; omega
    · have hkm : k = m := by omega
      obtain ⟨ys, hRY, hHY⟩ := hY.out
      go_wp2
      go_ret
      exact ⟨A3, n3, c3, ys, rfl, hRY, by rw [HL.out, ← hkm]; exact hHY, hEw⟩
set_option maxRecDepth 100000 in
set_option maxHeartbeats 4000000 in
theorem c_l17Part {v0 v1 v2 : Value} {ar t u : List Int} {w : World} (h0 : RdSig w v0 ar) (h1 : RdIc w v1 t) (h2 : RdI w v2 u) (ht : TermP ar t) :
    Calls Try.prog 81 #[v0, v1, v2] w fun e w' => e = .returned (.bool (has ar t u)) ∧ Ext w w' := by
  obtain ⟨A, n, c, rfl, ha⟩ := h0
  obtain ⟨B, m, d, rfl, hcap, hb⟩ := h1
  obtain ⟨D, q, l, rfl, hd⟩ := h2
  have hm := hb.le
  have hml := hb.len
  have HA := Lib.hid ha
  have HB := Lib.hid hb
  have HD := Lib.hid hd
  have HML := Lib.hid hml
  have HT := Lib.hid ht
  have hm1 : 1 ≤ m := by rw [← hml]; exact ht.2.1.1
  have HSG := Lib.hid (show SigP ar from ht.1)
  obtain ⟨hcap1, hcap2⟩ := hcap
  clear ha hb hd hml ht
  go_enter Try.func81, Try.ntmps81
  go_wp2_with fail
  obtain ⟨wo, hwo⟩ : ∃ wo, wo = w.alloc (.cells #[.slice A n c] 29) := ⟨_, rfl⟩
  have hw0 : wo.cell? ⟨w.heap.size, 0, none⟩ = some (.slice A n c) := by rw [hwo]; simp [go_sem]
  have hEo : Ext w wo := by rw [hwo]; exact extX
  rw [← hwo]
  clear hwo
  go_loopw [7] (fun i wr => ∃ k : Nat, i = .int .i64 k ∧ 1 ≤ k ∧ k ≤ m ∧ Hid (∀ p, 1 ≤ p → p < k → ¬ (subT ar t p).flat = u) ∧ Ext wo wr) (fun i _ => m - (intOf i).toNat)
  case atStart => exact ⟨1, rfl, Nat.le_refl _, hm1, Lib.hid fun p h1 h2 => by omega, Ext.refl _⟩
  case round =>
    obtain ⟨k, rfl, hk1, hk, hp, hE⟩ := hrel
    have hEw : Ext w wr := Ext.trans hEo hE
    have hr0 := Ext.keep hE hw0
    by_cases hlt : k < m
    · obtain ⟨hok, rest, hdr⟩ := subT_ok HT.out (show k < t.length by rw [HML.out]; exact hlt)
      obtain ⟨b, o, z, rfl, _, _⟩ := RI.at_ HB.out hlt
      have HSUB := Lib.hid (RI.sub HB.out hdr)
      obtain ⟨v, hv⟩ : ∃ v, v = (subT ar t k).flat := ⟨_, rfl⟩
      have hvl : k + v.length ≤ m := by
        have h1 := congrArg List.length hdr
        rw [List.length_drop, List.length_append, HML.out, ← hv] at h1
        omega
      have HOK := Lib.hid hok
      have HDR := Lib.hid hdr
      have HV := Lib.hid hv
      have hki : (k : Int) < (m : Int) := by omega
      have hk0 : (0 : Int) ≤ (k : Int) := by omega
      have hsub : k + v.length - k = v.length := by omega
      clear hok hdr
      obtain ⟨f, hf⟩ : ∃ f : Nat, f = k + v.length := ⟨_, rfl⟩
      have hff : f - k = v.length := by omega
      have hfi : (k : Int) ≤ (f : Int) := by omega
      have hfd : (f : Int) ≤ (d : Int) := by omega
      have hfn : f = k + (subT ar t k).flat.length := by rw [hf, hv]
      have HFN := Lib.hid hfn
      have HFF := Lib.hid hff
      clear hf hfn hv hsub hff
      go_wp2_with fail
      (with_reducible refine (c_l13End (u := subT ar t k) (p := k) (RdSig.mk (RI.ext HA.out hEw)) (RdI.mk (RI.ext HB.out hEw)) HSG.out HOK.out HDR.out).mono ?_)
      rw [← HFN.out]
      rintro e2 w2 ⟨rfl, hE2⟩
      have hEw2 := Ext.trans hEw hE2
      have HSV := Lib.hid (show RI w2 (some ⟨b, o + k, none⟩) (f - k) v by rw [HFF.out, HV.out]; exact RI.ext HSUB.out hEw2)
      by_cases he : v = u
      · have HR := Lib.hid (has_t (u := u) hk1 (by rw [HML.out]; exact hlt) (by rw [← HV.out]; exact he))
        have HEQ := Lib.hid (show (v == u) = true by simpa using he)
        clear he
        go_wp2_with fail
        (with_reducible refine (c_SameTerm (xs := v) (ys := u) (RdI.mk HSV.out) (RdI.mk (RI.ext HD.out hEw2))).mono ?_); rw [HEQ.out]; rintro e3 w3 ⟨rfl, hE3⟩
        go_wp2
        go_ret
        exact ⟨ret_bool HR.out.symm, by exact extX⟩
      · have HR := Lib.hid (show ∀ p, 1 ≤ p → p < k + 1 → ¬ (subT ar t p).flat = u from fun p h1 h2 => by
          rcases Nat.lt_or_ge p k with h | h
          · exact hp.out p h1 h
          · obtain rfl : p = k := by omega
            rw [← HV.out]; exact he)
        have HEQ := Lib.hid (show (v == u) = false by simpa using he)
        clear he
        go_wp2_with fail
        (with_reducible refine (c_SameTerm (xs := v) (ys := u) (RdI.mk HSV.out) (RdI.mk (RI.ext HD.out hEw2))).mono ?_); rw [HEQ.out]; rintro e3 w3 ⟨rfl, hE3⟩
        go_wp2
        go_roundw
        case rel => exact ⟨k + 1, by go_num, by omega, by omega, HR, Ext.trans hE (Ext.trans hE2 hE3)⟩
        case measure => simp only [intOf]; omega
    · have HR := Lib.hid (has_f (ar := ar) (t := t) (u := u) fun p h1 h2 => hp.out p h1 (by rw [HML.out] at h2; omega))
      go_wp2
      go_ret
      exact ⟨ret_bool HR.out.symm, by exact extX⟩

/-! DepOk of both. -/
theorem c_l1Has' {v : Value} {t : List Int} {x : Int} {w : World} {b : Bool} (hb : decide (x ∈ t) = b) (h0 : RdI w v t) :
    Calls Try.prog 77 #[v, .int .i64 x] w fun e w' => e = .returned (.bool b) ∧ Ext w w' :=
  (c_l1Has h0).mono fun _ _ ⟨he, hw⟩ => ⟨he.trans (ret_bool hb), by rw [hw]; exact Ext.refl _⟩
theorem c_l13End' {v0 v1 : Value} {ar t rest : List Int} {p f : Nat} {u : Tm} {w : World} (hf : f = p + u.flat.length) (h0 : RdSig w v0 ar) (h1 : RdI w v1 t) (hs : SigP ar) (hu : u.Ok ar) (hd : t.drop p = u.flat ++ rest) :
    Calls Try.prog 80 #[v0, v1, .int .i64 (p : Int)] w fun e w' => e = .returned (.int .i64 (f : Int)) ∧ Ext w w' := by
  rw [hf]; exact c_l13End h0 h1 hs hu hd
set_option maxRecDepth 100000 in
set_option maxHeartbeats 4000000 in
theorem c_l17At {v0 : Value} {s : Sy} {k a : Nat} {r : Ru} {x : Int} {w : World} (h0 : RdSyC w v0 s) (hs : SysP s) (hr : s.rs[k]? = some r) (hx : r.r[a]? = some x) :
    Calls Try.prog 50 #[v0, (.int .i64 (k : Int)), (.int .i64 (a : Int))] w (NewDo w (depOf s r k a x)) := by
  obtain ⟨A, n, c, B, m, d, rfl, ha, hb⟩ := h0
  have hkm : k < m := by have := (List.getElem?_eq_some_iff.1 hr).1; rw [hb.len] at this; exact this
  obtain ⟨b, o, r', A1, m1, c1, A2, m2, c2, rfl, hx', hd1, hd2, hr1, hr2, hcap1, hcap2⟩ := RR.at_ hb hkm
  rw [hr] at hx'; cases hx'
  have hrp := hs.2.2 k r hr
  have ham : a < m2 := by have := (List.getElem?_eq_some_iff.1 hx).1; rw [hr2.len] at this; exact this
  obtain ⟨b2, o2, x', rfl, hxx, hcx⟩ := RI.at_ hr2 ham
  rw [hx] at hxx; cases hxx
  obtain ⟨hok, rest, hdr⟩ := subT_ok hrp.2.1 (show a < r.r.length from (List.getElem?_eq_some_iff.1 hx).1)
  have HA := Lib.hid ha
  have HB := Lib.hid hb
  have HS := Lib.hid hs
  have HSG := Lib.hid (show SigP s.ar from hs.1)
  have HR1 := Lib.hid hr1
  have HR2 := Lib.hid hr2
  have HC1 := Lib.hid (hcap1 rfl)
  have HC2 := Lib.hid (hcap2 rfl)
  have HTL := Lib.hid hrp.1
  have HOK := Lib.hid hok
  have HDR := Lib.hid hdr
  have hki : (k : Int) < (m : Int) := by omega
  have hk0 : (0 : Int) ≤ (k : Int) := by omega
  have hai : (a : Int) < (m2 : Int) := by omega
  have ha0 : (0 : Int) ≤ (a : Int) := by omega
  have hbl : b < w.heap.size := World.block_lt_of_cell? w _ hd1
  have hbl2 : b2 < w.heap.size := World.block_lt_of_cell? w _ hcx
  clear ha hb hs hr1 hr2 hcap1 hcap2 hrp hok hdr
  go_enter Try.func50, Try.ntmps50
  go_wp2_with fail
  obtain ⟨w1, hw1⟩ : ∃ w1, w1 = ((w.alloc (.cells #[.slice A n c, .slice (some ⟨b, o, none⟩) m d] 49)).alloc (.cells #[.slice none 0 0, .slice none 0 0, .int .i64 0, .int .i64 0] 56)).alloc (.cells #[.slice A1 m1 c1, .slice (some ⟨b2, o2, none⟩) m2 c2] 78) := ⟨_, rfl⟩
  have hs0 : w1.cell? ⟨w.heap.size, 0, none⟩ = some (.slice A n c) := by rw [hw1]; simp [go_sem]
  have hs1 : w1.cell? ⟨w.heap.size, 1, none⟩ = some (.slice (some ⟨b, o, none⟩) m d) := by rw [hw1]; simp [go_sem]
  have hp0 : w1.cell? ⟨w.heap.size + 1, 0, none⟩ = some (.slice none 0 0) := by rw [hw1]; simp [go_sem]
  have hp1 : w1.cell? ⟨w.heap.size + 1, 1, none⟩ = some (.slice none 0 0) := by rw [hw1]; simp [go_sem]
  have hp2 : w1.cell? ⟨w.heap.size + 1, 2, none⟩ = some (.int .i64 0) := by rw [hw1]; simp [go_sem]
  have hp3 : w1.cell? ⟨w.heap.size + 1, 3, none⟩ = some (.int .i64 0) := by rw [hw1]; simp [go_sem]
  have hpf : ∀ j, w1.frozen? ⟨w.heap.size + 1, j, none⟩ = false := by intro j; rw [hw1]; simp [go_sem]
  have hq0 : w1.cell? ⟨w.heap.size + 1 + 1, 0, none⟩ = some (.slice A1 m1 c1) := by rw [hw1]; simp [go_sem]
  have hq1 : w1.cell? ⟨w.heap.size + 1 + 1, 1, none⟩ = some (.slice (some ⟨b2, o2, none⟩) m2 c2) := by rw [hw1]; simp [go_sem]
  have hE1 : Ext w w1 := by rw [hw1]; exact extX
  rw [← hw1]
  clear hw1
  have hcx1 := Ext.keep hE1 hcx
  by_cases hx0 : x < 0
  · have HR := Lib.hid (show depOf s r k a x = none by unfold depOf; rw [if_pos hx0])
    go_quiet (fail)
    go_wp2
    refine bodyPost_ret (v := .tuple #[.agg #[.slice none 0 0, .slice none 0 0, .int .i64 0, .int .i64 0], .bool false]) (by simp [results, Try.results50, go_sem, hp0, hp1, hp2, hp3, hpf]) rfl ?_
    rw [HR.out]
    exact ⟨none, 0, 0, none, 0, 0, 0, 0, rfl, (fun q e => by cases e), by exact extX⟩
  · have hd0 : decide (x < 0) = false := by simpa using hx0
    cases hdf : dfd s x with
    | false =>
      have HR := Lib.hid (show depOf s r k a x = none by unfold depOf; rw [if_neg hx0, if_pos hdf])
      have HD := Lib.hid hdf
      clear hdf
      refine wp_region_held_drew (S := (fun w' => w'.cell? ⟨w.heap.size, 0, none⟩ = some (.slice A n c) ∧ w'.cell? ⟨w.heap.size, 1, none⟩ = some (.slice (some ⟨b, o, none⟩) m d) ∧ w'.cell? ⟨w.heap.size + 1 + 1, 1, none⟩ = some (.slice (some ⟨b2, o2, none⟩) m2 c2) ∧ w'.cell? ⟨b2, o2 + a, none⟩ = some (.int .i64 x) ∧ Ext w1 w')) (by kernel_rfl) ?_ (fun hH => ?_)
      · exact ⟨hs0, hs1, hq1, hcx1, (Ext.refl w1).drew⟩
      refine wpAnyH_take_dst (i := 0) (v := .pointer (some ⟨w.heap.size + 1 + 1, 1, none⟩)) (d := some 15) rfl rfl (by kernel_rfl) (by kernel_rfl) (by kernel_rfl) (fun _ _ _ h => h) (Or.inl ⟨by rfl, ?_⟩) hH ?_
      · (intro w hSw; (try dsimp only at hSw); go_split_ands; go_simp; try with_reducible rfl)
      try simp only [Act.put, List.setIfInBounds_toArray, List.set_cons_zero, List.set_cons_succ]
      refine wpAnyH_take_dst (i := 1) (v := .slice (some ⟨b2, o2, none⟩) m2 c2) (d := some 16) rfl rfl (by kernel_rfl) (by kernel_rfl) (by kernel_rfl) (fun _ _ _ h => h) (Or.inl ⟨by rfl, ?_⟩) hH ?_
      · (intro w hSw; (try dsimp only at hSw); go_split_ands; go_simp; try with_reducible rfl)
      try simp only [Act.put, List.setIfInBounds_toArray, List.set_cons_zero, List.set_cons_succ]
      refine wpAnyH_take_dst (i := 2) (v := .int .i64 (a : Int)) (d := some 17) rfl rfl (by kernel_rfl) (by kernel_rfl) (by kernel_rfl) (fun _ _ _ h => h) (Or.inl ⟨by rfl, ?_⟩) hH ?_
      · (intro w hSw; (try dsimp only at hSw); go_split_ands; go_simp; try with_reducible rfl)
      try simp only [Act.put, List.setIfInBounds_toArray, List.set_cons_zero, List.set_cons_succ]
      refine wpAnyH_take_dst (i := 3) (v := .pointer (some ⟨b2, o2 + a, none⟩)) (d := some 18) rfl rfl (by kernel_rfl) (by kernel_rfl) (by kernel_rfl) (fun _ _ _ h => h) (Or.inl ⟨by rfl, ?_⟩) hH ?_
      · (intro w hSw; (try dsimp only at hSw); go_split_ands; go_simp; try with_reducible rfl)
      try simp only [Act.put, List.setIfInBounds_toArray, List.set_cons_zero, List.set_cons_succ]
      refine wpAnyH_take_dst (i := 4) (v := .int .i64 x) (d := some 19) rfl rfl (by kernel_rfl) (by kernel_rfl) (by kernel_rfl) (fun _ _ _ h => h) (Or.inl ⟨by rfl, ?_⟩) hH ?_
      · (intro w hSw; (try dsimp only at hSw); go_split_ands; go_simp; try with_reducible rfl)
      try simp only [Act.put, List.setIfInBounds_toArray, List.set_cons_zero, List.set_cons_succ]
      refine wpAnyH_take_dst (i := 5) (v := .bool false) (d := some 20) rfl rfl (by kernel_rfl) (by kernel_rfl) (by kernel_rfl) (fun _ _ _ h => h) (Or.inl ⟨by rfl, ?_⟩) hH ?_
      · (intro w hSw; (try dsimp only at hSw); go_split_ands; go_simp; try with_reducible rfl)
      try simp only [Act.put, List.setIfInBounds_toArray, List.set_cons_zero, List.set_cons_succ]
      refine wpAnyH_take_dst (i := 6) (v := .bool false) (d := some 21) rfl rfl (by kernel_rfl) (by kernel_rfl) (by kernel_rfl) (fun _ _ _ h => h) (Or.inl ⟨by rfl, ?_⟩) hH ?_
      · (intro w hSw; (try dsimp only at hSw); go_split_ands; go_simp; try with_reducible rfl)
      try simp only [Act.put, List.setIfInBounds_toArray, List.set_cons_zero, List.set_cons_succ]
      refine wpAnyH_take_dst (i := 7) (v := .agg #[.slice A n c, .slice (some ⟨b, o, none⟩) m d]) (d := some 22) rfl rfl (by kernel_rfl) (by kernel_rfl) (by kernel_rfl) (fun _ _ _ h => h) (Or.inl ⟨by rfl, ?_⟩) hH ?_
      · (intro w hSw; (try dsimp only at hSw); go_split_ands; go_simp; try with_reducible rfl)
      try simp only [Act.put, List.setIfInBounds_toArray, List.set_cons_zero, List.set_cons_succ]
      refine wpAnyH_take_dst (i := 9) (v := .pointer (some ⟨w.heap.size + 1 + 1, 1, none⟩)) (d := some 24) rfl rfl (by kernel_rfl) (by kernel_rfl) (by kernel_rfl) (fun _ _ _ h => h) (Or.inl ⟨by rfl, ?_⟩) hH ?_
      · (intro w hSw; (try dsimp only at hSw); go_split_ands; go_simp; try with_reducible rfl)
      try simp only [Act.put, List.setIfInBounds_toArray, List.set_cons_zero, List.set_cons_succ]
      refine wpAnyH_take_dst (i := 10) (v := .slice (some ⟨b2, o2, none⟩) m2 c2) (d := some 25) rfl rfl (by kernel_rfl) (by kernel_rfl) (by kernel_rfl) (fun _ _ _ h => h) (Or.inl ⟨by rfl, ?_⟩) hH ?_
      · (intro w hSw; (try dsimp only at hSw); go_split_ands; go_simp; try with_reducible rfl)
      try simp only [Act.put, List.setIfInBounds_toArray, List.set_cons_zero, List.set_cons_succ]
      refine wpAnyH_take_dst (i := 11) (v := .int .i64 (a : Int)) (d := some 26) rfl rfl (by kernel_rfl) (by kernel_rfl) (by kernel_rfl) (fun _ _ _ h => h) (Or.inl ⟨by rfl, ?_⟩) hH ?_
      · (intro w hSw; (try dsimp only at hSw); go_split_ands; go_simp; try with_reducible rfl)
      try simp only [Act.put, List.setIfInBounds_toArray, List.set_cons_zero, List.set_cons_succ]
      refine wpAnyH_take_dst (i := 12) (v := .pointer (some ⟨b2, o2 + a, none⟩)) (d := some 27) rfl rfl (by kernel_rfl) (by kernel_rfl) (by kernel_rfl) (fun _ _ _ h => h) (Or.inl ⟨by rfl, ?_⟩) hH ?_
      · (intro w hSw; (try dsimp only at hSw); go_split_ands; go_simp; try with_reducible rfl)
      try simp only [Act.put, List.setIfInBounds_toArray, List.set_cons_zero, List.set_cons_succ]
      refine wpAnyH_take_dst (i := 13) (v := .int .i64 x) (d := some 28) rfl rfl (by kernel_rfl) (by kernel_rfl) (by kernel_rfl) (fun _ _ _ h => h) (Or.inl ⟨by rfl, ?_⟩) hH ?_
      · (intro w hSw; (try dsimp only at hSw); go_split_ands; go_simp; try with_reducible rfl)
      try simp only [Act.put, List.setIfInBounds_toArray, List.set_cons_zero, List.set_cons_succ]
      refine wpAnyH_ready (rs := [8]) (by kernel_rfl) (by simp) ?_
      refine AllReadyH.cons rfl (fun K hK => ?_) AllReadyH.nil
      rw [if_pos (by rfl)]
      go_wp2_with (go_at_call 78; (with_reducible refine ((c_l6Defined (s := s) (RdSyK.mk (RI.ext HA.out (Ext.trans hE1 hH.2.2.2.2)) (RR.ext HB.out (Ext.trans hE1 hH.2.2.2.2))) HS.out)).mono ?_); rintro e w8 ⟨A7, n7, c7, ys, rfl, hr7, hh7, hE9⟩)
      refine hK.out _ _ ⟨Ext.keep hE9 hH.1, Ext.keep hE9 hH.2.1, Ext.keep hE9 hH.2.2.1, Ext.keep hE9 hH.2.2.2.1, Ext.trans hH.2.2.2.2 hE9⟩ (fun hH9 => ?_)
      clear hK hH; have hH := hH9; clear hH9
      try simp only [Act.put, List.setIfInBounds_toArray, List.set_cons_zero, List.set_cons_succ]
      refine wpAnyH_ready (rs := [14]) (by kernel_rfl) (by simp) ?_
      refine AllReadyH.cons rfl (fun K hK => ?_) AllReadyH.nil
      rw [if_pos (by rfl)]
      go_wp2_with (go_at_call 77; (with_reducible refine ((c_l1Has' (x := x) ((HeadsTo.all hh7 x).trans HD.out) (RdI.mk hr7))).mono ?_); rintro e w9 ⟨rfl, hE9⟩)
      refine hK.out _ _ ⟨Ext.keep hE9 hH.1, Ext.keep hE9 hH.2.1, Ext.keep hE9 hH.2.2.1, Ext.keep hE9 hH.2.2.2.1, Ext.trans hH.2.2.2.2 hE9⟩ (fun hH9 => ?_)
      clear hK hH; have hH := hH9; clear hH9
      try simp only [Act.put, List.setIfInBounds_toArray, List.set_cons_zero, List.set_cons_succ]
      refine wpAnyH_take_dst (i := 15) (v := .bool true) (d := some 30) rfl rfl (by kernel_rfl) (by kernel_rfl) (by kernel_rfl) (fun _ _ _ h => h) (Or.inl ⟨by rfl, ?_⟩) hH ?_
      · (intro w hSw; (try dsimp only at hSw); go_split_ands; go_simp; try with_reducible rfl)
      try simp only [Act.put, List.setIfInBounds_toArray, List.set_cons_zero, List.set_cons_succ]
      refine wpAnyH_take_dst (i := 16) (v := .bool true) (d := some 31) rfl rfl (by kernel_rfl) (by kernel_rfl) (by kernel_rfl) (fun _ _ _ h => h) (Or.inl ⟨by rfl, ?_⟩) hH ?_
      · (intro w hSw; (try dsimp only at hSw); go_split_ands; go_simp; try with_reducible rfl)
      try simp only [Act.put, List.setIfInBounds_toArray, List.set_cons_zero, List.set_cons_succ]
      refine wpAnyH_done (by kernel_rfl) ?_ _
      have hE9 := hH.2.2.2.2
      obtain ⟨k0, k1, k2, k3, kf⟩ : w9.cell? ⟨w.heap.size + 1, 0, none⟩ = some (.slice none 0 0) ∧ w9.cell? ⟨w.heap.size + 1, 1, none⟩ = some (.slice none 0 0) ∧ w9.cell? ⟨w.heap.size + 1, 2, none⟩ = some (.int .i64 0) ∧ w9.cell? ⟨w.heap.size + 1, 3, none⟩ = some (.int .i64 0) ∧ ∀ j, w9.frozen? ⟨w.heap.size + 1, j, none⟩ = false :=
        ⟨Ext.keep hE9 hp0, Ext.keep hE9 hp1, Ext.keep hE9 hp2, Ext.keep hE9 hp3, fun j => (Below.frozen (p := ⟨w.heap.size + 1, j, none⟩) hE9 (by have := World.block_lt_of_cell? w1 _ hp0; exact this)).trans (hpf j)⟩
      have hEw9 : Ext w w9 := Ext.trans hE1 hE9
      clear hH
      go_wp2
      refine bodyPost_ret (v := .tuple #[.agg #[.slice none 0 0, .slice none 0 0, .int .i64 0, .int .i64 0], .bool false]) (by simp [results, Try.results50, go_sem, k0, k1, k2, k3, kf]) rfl ?_
      rw [HR.out]
      exact ⟨none, 0, 0, none, 0, 0, 0, 0, rfl, (fun q e => by cases e), by exact extX⟩
    | true =>
      have HD := Lib.hid hdf
      refine wp_region_held_drew (S := (fun w' => w'.cell? ⟨w.heap.size, 0, none⟩ = some (.slice A n c) ∧ w'.cell? ⟨w.heap.size, 1, none⟩ = some (.slice (some ⟨b, o, none⟩) m d) ∧ w'.cell? ⟨w.heap.size + 1 + 1, 1, none⟩ = some (.slice (some ⟨b2, o2, none⟩) m2 c2) ∧ w'.cell? ⟨b2, o2 + a, none⟩ = some (.int .i64 x) ∧ Ext w1 w')) (by kernel_rfl) ?_ (fun hH => ?_)
      · exact ⟨hs0, hs1, hq1, hcx1, (Ext.refl w1).drew⟩
      refine wpAnyH_take_dst (i := 0) (v := .pointer (some ⟨w.heap.size + 1 + 1, 1, none⟩)) (d := some 15) rfl rfl (by kernel_rfl) (by kernel_rfl) (by kernel_rfl) (fun _ _ _ h => h) (Or.inl ⟨by rfl, ?_⟩) hH ?_
      · (intro w hSw; (try dsimp only at hSw); go_split_ands; go_simp; try with_reducible rfl)
      try simp only [Act.put, List.setIfInBounds_toArray, List.set_cons_zero, List.set_cons_succ]
      refine wpAnyH_take_dst (i := 1) (v := .slice (some ⟨b2, o2, none⟩) m2 c2) (d := some 16) rfl rfl (by kernel_rfl) (by kernel_rfl) (by kernel_rfl) (fun _ _ _ h => h) (Or.inl ⟨by rfl, ?_⟩) hH ?_
      · (intro w hSw; (try dsimp only at hSw); go_split_ands; go_simp; try with_reducible rfl)
      try simp only [Act.put, List.setIfInBounds_toArray, List.set_cons_zero, List.set_cons_succ]
      refine wpAnyH_take_dst (i := 2) (v := .int .i64 (a : Int)) (d := some 17) rfl rfl (by kernel_rfl) (by kernel_rfl) (by kernel_rfl) (fun _ _ _ h => h) (Or.inl ⟨by rfl, ?_⟩) hH ?_
      · (intro w hSw; (try dsimp only at hSw); go_split_ands; go_simp; try with_reducible rfl)
      try simp only [Act.put, List.setIfInBounds_toArray, List.set_cons_zero, List.set_cons_succ]
      refine wpAnyH_take_dst (i := 3) (v := .pointer (some ⟨b2, o2 + a, none⟩)) (d := some 18) rfl rfl (by kernel_rfl) (by kernel_rfl) (by kernel_rfl) (fun _ _ _ h => h) (Or.inl ⟨by rfl, ?_⟩) hH ?_
      · (intro w hSw; (try dsimp only at hSw); go_split_ands; go_simp; try with_reducible rfl)
      try simp only [Act.put, List.setIfInBounds_toArray, List.set_cons_zero, List.set_cons_succ]
      refine wpAnyH_take_dst (i := 4) (v := .int .i64 x) (d := some 19) rfl rfl (by kernel_rfl) (by kernel_rfl) (by kernel_rfl) (fun _ _ _ h => h) (Or.inl ⟨by rfl, ?_⟩) hH ?_
      · (intro w hSw; (try dsimp only at hSw); go_split_ands; go_simp; try with_reducible rfl)
      try simp only [Act.put, List.setIfInBounds_toArray, List.set_cons_zero, List.set_cons_succ]
      refine wpAnyH_take_dst (i := 5) (v := .bool false) (d := some 20) rfl rfl (by kernel_rfl) (by kernel_rfl) (by kernel_rfl) (fun _ _ _ h => h) (Or.inl ⟨by rfl, ?_⟩) hH ?_
      · (intro w hSw; (try dsimp only at hSw); go_split_ands; go_simp; try with_reducible rfl)
      try simp only [Act.put, List.setIfInBounds_toArray, List.set_cons_zero, List.set_cons_succ]
      refine wpAnyH_take_dst (i := 6) (v := .bool false) (d := some 21) rfl rfl (by kernel_rfl) (by kernel_rfl) (by kernel_rfl) (fun _ _ _ h => h) (Or.inl ⟨by rfl, ?_⟩) hH ?_
      · (intro w hSw; (try dsimp only at hSw); go_split_ands; go_simp; try with_reducible rfl)
      try simp only [Act.put, List.setIfInBounds_toArray, List.set_cons_zero, List.set_cons_succ]
      refine wpAnyH_take_dst (i := 7) (v := .agg #[.slice A n c, .slice (some ⟨b, o, none⟩) m d]) (d := some 22) rfl rfl (by kernel_rfl) (by kernel_rfl) (by kernel_rfl) (fun _ _ _ h => h) (Or.inl ⟨by rfl, ?_⟩) hH ?_
      · (intro w hSw; (try dsimp only at hSw); go_split_ands; go_simp; try with_reducible rfl)
      try simp only [Act.put, List.setIfInBounds_toArray, List.set_cons_zero, List.set_cons_succ]
      refine wpAnyH_take_dst (i := 9) (v := .pointer (some ⟨w.heap.size + 1 + 1, 1, none⟩)) (d := some 24) rfl rfl (by kernel_rfl) (by kernel_rfl) (by kernel_rfl) (fun _ _ _ h => h) (Or.inl ⟨by rfl, ?_⟩) hH ?_
      · (intro w hSw; (try dsimp only at hSw); go_split_ands; go_simp; try with_reducible rfl)
      try simp only [Act.put, List.setIfInBounds_toArray, List.set_cons_zero, List.set_cons_succ]
      refine wpAnyH_take_dst (i := 10) (v := .slice (some ⟨b2, o2, none⟩) m2 c2) (d := some 25) rfl rfl (by kernel_rfl) (by kernel_rfl) (by kernel_rfl) (fun _ _ _ h => h) (Or.inl ⟨by rfl, ?_⟩) hH ?_
      · (intro w hSw; (try dsimp only at hSw); go_split_ands; go_simp; try with_reducible rfl)
      try simp only [Act.put, List.setIfInBounds_toArray, List.set_cons_zero, List.set_cons_succ]
      refine wpAnyH_take_dst (i := 11) (v := .int .i64 (a : Int)) (d := some 26) rfl rfl (by kernel_rfl) (by kernel_rfl) (by kernel_rfl) (fun _ _ _ h => h) (Or.inl ⟨by rfl, ?_⟩) hH ?_
      · (intro w hSw; (try dsimp only at hSw); go_split_ands; go_simp; try with_reducible rfl)
      try simp only [Act.put, List.setIfInBounds_toArray, List.set_cons_zero, List.set_cons_succ]
      refine wpAnyH_take_dst (i := 12) (v := .pointer (some ⟨b2, o2 + a, none⟩)) (d := some 27) rfl rfl (by kernel_rfl) (by kernel_rfl) (by kernel_rfl) (fun _ _ _ h => h) (Or.inl ⟨by rfl, ?_⟩) hH ?_
      · (intro w hSw; (try dsimp only at hSw); go_split_ands; go_simp; try with_reducible rfl)
      try simp only [Act.put, List.setIfInBounds_toArray, List.set_cons_zero, List.set_cons_succ]
      refine wpAnyH_take_dst (i := 13) (v := .int .i64 x) (d := some 28) rfl rfl (by kernel_rfl) (by kernel_rfl) (by kernel_rfl) (fun _ _ _ h => h) (Or.inl ⟨by rfl, ?_⟩) hH ?_
      · (intro w hSw; (try dsimp only at hSw); go_split_ands; go_simp; try with_reducible rfl)
      try simp only [Act.put, List.setIfInBounds_toArray, List.set_cons_zero, List.set_cons_succ]
      refine wpAnyH_ready (rs := [8]) (by kernel_rfl) (by simp) ?_
      refine AllReadyH.cons rfl (fun K hK => ?_) AllReadyH.nil
      rw [if_pos (by rfl)]
      go_wp2_with (go_at_call 78; (with_reducible refine ((c_l6Defined (s := s) (RdSyK.mk (RI.ext HA.out (Ext.trans hE1 hH.2.2.2.2)) (RR.ext HB.out (Ext.trans hE1 hH.2.2.2.2))) HS.out)).mono ?_); rintro e w8 ⟨A7, n7, c7, ys, rfl, hr7, hh7, hE9⟩)
      refine hK.out _ _ ⟨Ext.keep hE9 hH.1, Ext.keep hE9 hH.2.1, Ext.keep hE9 hH.2.2.1, Ext.keep hE9 hH.2.2.2.1, Ext.trans hH.2.2.2.2 hE9⟩ (fun hH9 => ?_)
      clear hK hH; have hH := hH9; clear hH9
      try simp only [Act.put, List.setIfInBounds_toArray, List.set_cons_zero, List.set_cons_succ]
      refine wpAnyH_ready (rs := [14]) (by kernel_rfl) (by simp) ?_
      refine AllReadyH.cons rfl (fun K hK => ?_) AllReadyH.nil
      rw [if_pos (by rfl)]
      go_wp2_with (go_at_call 77; (with_reducible refine ((c_l1Has' (x := x) ((HeadsTo.all hh7 x).trans HD.out) (RdI.mk hr7))).mono ?_); rintro e w9 ⟨rfl, hE9⟩)
      refine hK.out _ _ ⟨Ext.keep hE9 hH.1, Ext.keep hE9 hH.2.1, Ext.keep hE9 hH.2.2.1, Ext.keep hE9 hH.2.2.2.1, Ext.trans hH.2.2.2.2 hE9⟩ (fun hH9 => ?_)
      clear hK hH; have hH := hH9; clear hH9
      try simp only [Act.put, List.setIfInBounds_toArray, List.set_cons_zero, List.set_cons_succ]
      refine wpAnyH_take_dst (i := 15) (v := .bool false) (d := some 30) rfl rfl (by kernel_rfl) (by kernel_rfl) (by kernel_rfl) (fun _ _ _ h => h) (Or.inl ⟨by rfl, ?_⟩) hH ?_
      · (intro w hSw; (try dsimp only at hSw); go_split_ands; go_simp; try with_reducible rfl)
      try simp only [Act.put, List.setIfInBounds_toArray, List.set_cons_zero, List.set_cons_succ]
      refine wpAnyH_take_dst (i := 16) (v := .bool false) (d := some 31) rfl rfl (by kernel_rfl) (by kernel_rfl) (by kernel_rfl) (fun _ _ _ h => h) (Or.inl ⟨by rfl, ?_⟩) hH ?_
      · (intro w hSw; (try dsimp only at hSw); go_split_ands; go_simp; try with_reducible rfl)
      try simp only [Act.put, List.setIfInBounds_toArray, List.set_cons_zero, List.set_cons_succ]
      refine wpAnyH_done (by kernel_rfl) ?_ _
      have hE9 := hH.2.2.2.2
      obtain ⟨k0, k1, k2, k3, kf⟩ : w9.cell? ⟨w.heap.size + 1, 0, none⟩ = some (.slice none 0 0) ∧ w9.cell? ⟨w.heap.size + 1, 1, none⟩ = some (.slice none 0 0) ∧ w9.cell? ⟨w.heap.size + 1, 2, none⟩ = some (.int .i64 0) ∧ w9.cell? ⟨w.heap.size + 1, 3, none⟩ = some (.int .i64 0) ∧ ∀ j, w9.frozen? ⟨w.heap.size + 1, j, none⟩ = false :=
        ⟨Ext.keep hE9 hp0, Ext.keep hE9 hp1, Ext.keep hE9 hp2, Ext.keep hE9 hp3, fun j => (Below.frozen (p := ⟨w.heap.size + 1, j, none⟩) hE9 (by have := World.block_lt_of_cell? w1 _ hp0; exact this)).trans (hpf j)⟩
      have m0 := hH.1
      have m1' := hH.2.2.1
      have m2' := Ext.keep hE9 hq0
      have hEw9 : Ext w w9 := Ext.trans hE1 hE9
      clear hH
      obtain ⟨v, hv⟩ : ∃ v, v = (subT s.ar r.r a).flat := ⟨_, rfl⟩
      have HSUB := Lib.hid (RI.sub HR2.out HDR.out)
      have hvl : a + v.length ≤ m2 := by
        have h1 := congrArg List.length HDR.out
        rw [List.length_drop, List.length_append, HR2.out.len, ← hv] at h1
        omega
      obtain ⟨f, hf⟩ : ∃ f : Nat, f = a + v.length := ⟨_, rfl⟩
      have hff : f - a = v.length := by omega
      have hfi : (a : Int) ≤ (f : Int) := by omega
      have hfd : (f : Int) ≤ (c2 : Int) := by have := HC2.out; omega
      have hca : ¬ c2 = a := by have := HC2.out; omega
      have HFN := Lib.hid (show f = a + (subT s.ar r.r a).flat.length by rw [hf, hv])
      have HFF := Lib.hid hff
      have HV := Lib.hid hv
      have HSV := Lib.hid (show RI w (some ⟨b2, o2 + a, none⟩) (f - a) v by rw [HFF.out, HV.out]; exact HSUB.out)
      clear hf hv hff
      obtain ⟨wm, rfl⟩ : ∃ wm : World, w9 = wm := ⟨_, rfl⟩
      have hEm := hE9
      clear hE9
      go_wp2_with fail
      refine wp_region_held_drew (S := (fun w' => w'.cell? ⟨w.heap.size + 1 + 1, 1, none⟩ = some (.slice (some ⟨b2, o2, none⟩) m2 c2) ∧ w'.cell? ⟨w.heap.size, 0, none⟩ = some (.slice A n c) ∧ Ext w9 w')) (by kernel_rfl) ?_ (fun hH => ?_)
      · exact ⟨m1', m0, (Ext.refl w9).drew⟩
      refine wpAnyH_take_dst (i := 0) (v := .pointer (some ⟨w.heap.size + 1 + 1, 1, none⟩)) (d := some 33) rfl rfl (by kernel_rfl) (by kernel_rfl) (by kernel_rfl) (fun _ _ _ h => h) (Or.inl ⟨by rfl, ?_⟩) hH ?_
      · (intro w hSw; (try dsimp only at hSw); go_split_ands; go_simp; try with_reducible rfl)
      try simp only [Act.put, List.setIfInBounds_toArray, List.set_cons_zero, List.set_cons_succ]
      refine wpAnyH_take_dst (i := 1) (v := .slice (some ⟨b2, o2, none⟩) m2 c2) (d := some 34) rfl rfl (by kernel_rfl) (by kernel_rfl) (by kernel_rfl) (fun _ _ _ h => h) (Or.inl ⟨by rfl, ?_⟩) hH ?_
      · (intro w hSw; (try dsimp only at hSw); go_split_ands; go_simp; try with_reducible rfl)
      try simp only [Act.put, List.setIfInBounds_toArray, List.set_cons_zero, List.set_cons_succ]
      refine wpAnyH_take_dst (i := 2) (v := .int .i64 (a : Int)) (d := some 35) rfl rfl (by kernel_rfl) (by kernel_rfl) (by kernel_rfl) (fun _ _ _ h => h) (Or.inl ⟨by rfl, ?_⟩) hH ?_
      · (intro w hSw; (try dsimp only at hSw); go_split_ands; go_simp; try with_reducible rfl)
      try simp only [Act.put, List.setIfInBounds_toArray, List.set_cons_zero, List.set_cons_succ]
      refine wpAnyH_take_dst (i := 3) (v := .pointer (some ⟨w.heap.size, 0, none⟩)) (d := some 36) rfl rfl (by kernel_rfl) (by kernel_rfl) (by kernel_rfl) (fun _ _ _ h => h) (Or.inl ⟨by rfl, ?_⟩) hH ?_
      · (intro w hSw; (try dsimp only at hSw); go_split_ands; go_simp; try with_reducible rfl)
      try simp only [Act.put, List.setIfInBounds_toArray, List.set_cons_zero, List.set_cons_succ]
      refine wpAnyH_take_dst (i := 4) (v := .agg #[.slice A n c]) (d := some 37) rfl rfl (by kernel_rfl) (by kernel_rfl) (by kernel_rfl) (fun _ _ _ h => h) (Or.inl ⟨by rfl, ?_⟩) hH ?_
      · (intro w hSw; (try dsimp only at hSw); go_split_ands; go_simp; try with_reducible rfl)
      try simp only [Act.put, List.setIfInBounds_toArray, List.set_cons_zero, List.set_cons_succ]
      refine wpAnyH_take_dst (i := 5) (v := .pointer (some ⟨w.heap.size + 1 + 1, 1, none⟩)) (d := some 38) rfl rfl (by kernel_rfl) (by kernel_rfl) (by kernel_rfl) (fun _ _ _ h => h) (Or.inl ⟨by rfl, ?_⟩) hH ?_
      · (intro w hSw; (try dsimp only at hSw); go_split_ands; go_simp; try with_reducible rfl)
      try simp only [Act.put, List.setIfInBounds_toArray, List.set_cons_zero, List.set_cons_succ]
      refine wpAnyH_take_dst (i := 6) (v := .slice (some ⟨b2, o2, none⟩) m2 c2) (d := some 39) rfl rfl (by kernel_rfl) (by kernel_rfl) (by kernel_rfl) (fun _ _ _ h => h) (Or.inl ⟨by rfl, ?_⟩) hH ?_
      · (intro w hSw; (try dsimp only at hSw); go_split_ands; go_simp; try with_reducible rfl)
      try simp only [Act.put, List.setIfInBounds_toArray, List.set_cons_zero, List.set_cons_succ]
      refine wpAnyH_take_dst (i := 7) (v := .int .i64 (a : Int)) (d := some 40) rfl rfl (by kernel_rfl) (by kernel_rfl) (by kernel_rfl) (fun _ _ _ h => h) (Or.inl ⟨by rfl, ?_⟩) hH ?_
      · (intro w hSw; (try dsimp only at hSw); go_split_ands; go_simp; try with_reducible rfl)
      try simp only [Act.put, List.setIfInBounds_toArray, List.set_cons_zero, List.set_cons_succ]
      refine wpAnyH_ready (rs := [8]) (by kernel_rfl) (by simp) ?_
      refine AllReadyH.cons rfl (fun K hK => ?_) AllReadyH.nil
      rw [if_pos (by rfl)]
      go_wp2_with (go_at_call 80; (with_reducible refine ((c_l13End' (u := subT s.ar r.r a) (p := a) HFN.out (RdSig.mk (RI.ext HA.out (Ext.trans hEw9 hH.2.2))) (RdI.mk (RI.ext HR2.out (Ext.trans hEw9 hH.2.2))) HSG.out HOK.out HDR.out)).mono ?_); rintro e w2 ⟨rfl, hE9⟩)
      refine hK.out _ _ ⟨Ext.keep hE9 hH.1, Ext.keep hE9 hH.2.1, Ext.trans hH.2.2 hE9⟩ (fun hH9 => ?_)
      clear hK hH; have hH := hH9; clear hH9
      try simp only [Act.put, List.setIfInBounds_toArray, List.set_cons_zero, List.set_cons_succ]
      refine wpAnyH_take_dst (i := 9) (v := .slice (some ⟨b2, o2 + a, none⟩) (f - a) (c2 - a)) (d := some 42) rfl rfl (by kernel_rfl) (by kernel_rfl) (by kernel_rfl) (fun _ _ _ h => h) (Or.inl ⟨by rfl, ?_⟩) hH ?_
      · (intro w hSw; (try dsimp only at hSw); go_split_ands; go_simp; try with_reducible rfl)
      try simp only [Act.put, List.setIfInBounds_toArray, List.set_cons_zero, List.set_cons_succ]
      refine wpAnyH_ready (rs := [10]) (by kernel_rfl) (by simp) ?_
      refine AllReadyH.cons rfl (fun K hK => ?_) AllReadyH.nil
      rw [if_pos (by rfl)]
      go_wp2_with (go_at_call 79; (with_reducible refine ((c_l1Copy (RI.ext HSV.out (Ext.trans hEw9 hH.2.2)))).mono ?_); rintro e w3 ⟨A5, n5, c5, rfl, hO5, hE9⟩)
      refine hK.out _ _ ⟨Ext.keep hE9 hH.1, Ext.keep hE9 hH.2.1, Ext.trans hH.2.2 hE9⟩ (fun hH9 => ?_)
      clear hK hH; have hH := hH9; clear hH9
      try simp only [Act.put, List.setIfInBounds_toArray, List.set_cons_zero, List.set_cons_succ]
      refine wpAnyH_take_dst (i := 11) (v := .slice A5 n5 c5) (d := some 9) rfl rfl (by kernel_rfl) (by kernel_rfl) (by kernel_rfl) (fun _ _ _ h => h) (Or.inl ⟨by rfl, ?_⟩) hH ?_
      · (intro w hSw; (try dsimp only at hSw); go_split_ands; go_simp; try with_reducible rfl)
      try simp only [Act.put, List.setIfInBounds_toArray, List.set_cons_zero, List.set_cons_succ]
      refine wpAnyH_done (by kernel_rfl) ?_ _
      have hE3 := hH.2.2
      have HR5 := Lib.hid hO5.ri
      have hbd5 := hO5.bd
      have hs29 : w9.heap.size ≤ w2.heap.size := (show Ext w9.drew w2 by assumption).size
      have j0 := Ext.keep hE3 m0
      have j1 := Ext.keep hE3 m2'
      have hEw3 := Ext.trans hEw9 hE3
      clear hO5
      go_wp2_with fail
      (with_reducible refine (c_l17Part (u := v) (RdSig.mk (RI.ext HA.out hEw3)) (RdIc.mk HC1.out (RI.ext HR1.out hEw3)) (RdI.mk HR5.out) HTL.out).mono ?_)
      rw [HV.out]
      cases hha : has s.ar r.l (subT s.ar r.r a).flat with
      | true =>
        have HR := Lib.hid (show depOf s r k a x = none by unfold depOf; rw [if_neg (by omega), if_neg (by rw [hdf]; simp), if_pos hha])
        rintro e4 w4 ⟨rfl, hE4⟩
        have hE94 := Ext.trans hE3 hE4
        obtain ⟨k0, k1, k2, k3, kf⟩ : w4.cell? ⟨w.heap.size + 1, 0, none⟩ = some (.slice none 0 0) ∧ w4.cell? ⟨w.heap.size + 1, 1, none⟩ = some (.slice none 0 0) ∧ w4.cell? ⟨w.heap.size + 1, 2, none⟩ = some (.int .i64 0) ∧ w4.cell? ⟨w.heap.size + 1, 3, none⟩ = some (.int .i64 0) ∧ ∀ j, w4.frozen? ⟨w.heap.size + 1, j, none⟩ = false :=
          ⟨Ext.keep hE94 k0, Ext.keep hE94 k1, Ext.keep hE94 k2, Ext.keep hE94 k3, fun j => (Below.frozen (p := ⟨w.heap.size + 1, j, none⟩) hE94 (by have := World.block_lt_of_cell? w9 _ k0; exact this)).trans (kf j)⟩
        have hEw4 := Ext.trans hEw3 hE4
        go_wp2
        refine bodyPost_ret (v := .tuple #[.agg #[.slice none 0 0, .slice none 0 0, .int .i64 0, .int .i64 0], .bool false]) (by simp [results, Try.results50, go_sem, k0, k1, k2, k3, kf]) rfl ?_
        rw [HR.out]
        exact ⟨none, 0, 0, none, 0, 0, 0, 0, rfl, (fun q e => by cases e), by exact extX⟩
      | false =>
        have HR := Lib.hid (show depOf s r k a x = some ⟨r.l, (subT s.ar r.r a).flat, k, a⟩ by unfold depOf; rw [if_neg (by omega), if_neg (by rw [hdf]; simp), if_neg (by rw [hha]; simp)])
        rintro e4 w4 ⟨rfl, hE4⟩
        have i1 := Ext.keep hE4 j1
        have hEw4 := Ext.trans hEw3 hE4
        go_wp2_with fail
        (with_reducible refine (c_l1Copy (RI.ext HR1.out hEw4)).mono ?_)
        rintro e5 w5 ⟨A6, n6, c6, rfl, hO6, hE5⟩
        have HR6 := Lib.hid hO6.ri
        have hbd6 := hO6.bd
        have hEw5 := Ext.trans hEw4 hE5
        clear hO6
        have HR7 := Lib.hid (RI.ext HR5.out (Ext.trans hE4 hE5))
        have hE96 := Ext.trans hE3 (Ext.trans hE4 hE5)
        obtain ⟨k0, k1, k2, k3, kf⟩ : w5.cell? ⟨w.heap.size + 1, 0, none⟩ = some (.slice none 0 0) ∧ w5.cell? ⟨w.heap.size + 1, 1, none⟩ = some (.slice none 0 0) ∧ w5.cell? ⟨w.heap.size + 1, 2, none⟩ = some (.int .i64 0) ∧ w5.cell? ⟨w.heap.size + 1, 3, none⟩ = some (.int .i64 0) ∧ ∀ j, w5.frozen? ⟨w.heap.size + 1, j, none⟩ = false :=
          ⟨Ext.keep hE96 k0, Ext.keep hE96 k1, Ext.keep hE96 k2, Ext.keep hE96 k3, fun j => (Below.frozen (p := ⟨w.heap.size + 1, j, none⟩) hE96 (by have := World.block_lt_of_cell? w9 _ k0; exact this)).trans (kf j)⟩
        have hlt9 : w.heap.size + 1 < w9.heap.size := by
          have h1 := World.block_lt_of_cell? w1 _ hp0
          have h2 := hEm.size
          have h3 : w.heap.size + 1 < w1.heap.size := h1
          omega
        have hs49 : w9.heap.size ≤ w4.heap.size := (Ext.trans hE3 hE4).size
        have hs59 : w4.heap.size ≤ w5.heap.size := hE5.size
        go_wp2_with fail
        refine bodyPost_ret (v := .tuple #[.agg #[.slice A6 n6 c6, .slice A5 n5 c5, .int .i64 (k : Int), .int .i64 (a : Int)], .bool true]) (by simp [results, Try.results50, go_sem, k0, k1, k2, k3, kf]) rfl ?_
        rw [HR.out]
        refine ⟨A6, n6, c6, A5, n5, c5, _, _, rfl, fun q e => ?_, by exact extX⟩
        cases e
        refine ⟨rfl, rfl, ?_, ?_⟩
        · exact RI.only HR6.out (Only.trans (Only.trans (Only.trans (Only.setCell _ (w.heap.size + 1) _ _) (Only.setCell _ _ _ _)) (Only.setCell _ _ _ _)) (Only.setCell _ _ _ _)) (fun b o s e _ => by have := (hbd6 b o s e).1; omega)
        · rw [← HV.out]; exact RI.only HR7.out (Only.trans (Only.trans (Only.trans (Only.setCell _ (w.heap.size + 1) _ _) (Only.setCell _ _ _ _)) (Only.setCell _ _ _ _)) (Only.setCell _ _ _ _)) (fun b o s e _ => by have := (hbd5 b o s e).1; omega)

/-! A growing row of pairs of the call's own. -/
/-- The cells of a pair whose slices lie at places 2j and 2j + 1. -/
def cells4 (G : Nat → Option Addr) (C : Nat → Nat) (j : Nat) (q : DepP) : List Value := [.slice (G (2 * j)) q.l.length (C (2 * j)), .slice (G (2 * j + 1)) q.r.length (C (2 * j + 1)), .int .i64 q.rule, .int .i64 q.at_]
def cellsE (G : Nat → Option Addr) (C : Nat → Nat) : Nat → List DepP → List Value
  | _, [] => []
  | j, q :: qs => cells4 G C j q ++ cellsE G C (j + 1) qs
theorem cellsE_len (G : Nat → Option Addr) (C : Nat → Nat) : ∀ (qs : List DepP) (j : Nat), (cellsE G C j qs).length = qs.length * 4
  | [], _ => rfl
  | q :: qs, j => by rw [cellsE, List.length_append, cellsE_len G C qs (j + 1), List.length_cons]; simp [cells4]; omega
theorem cellsE_snoc (G : Nat → Option Addr) (C : Nat → Nat) (q : DepP) : ∀ (qs : List DepP) (j : Nat), cellsE G C j (qs ++ [q]) = cellsE G C j qs ++ cells4 G C (j + qs.length) q
  | [], j => by simp [cellsE]
  | p :: qs, j => by rw [List.cons_append, cellsE, cellsE_snoc G C q qs (j + 1), cellsE, List.append_assoc, List.length_cons, show j + 1 + qs.length = j + (qs.length + 1) by omega]
theorem cellsE_get (G : Nat → Option Addr) (C : Nat → Nat) : ∀ (qs : List DepP) (j i o : Nat) (q : DepP), qs[i]? = some q → o < 4 → (cellsE G C j qs)[i * 4 + o]? = (cells4 G C (j + i) q)[o]?
  | [], _, i, _, _, h, _ => by simp at h
  | p :: qs, j, 0, o, q, h, ho => by
    cases h
    rw [cellsE, List.getElem?_append_left (by simp [cells4]; omega)]
    simp
  | p :: qs, j, i + 1, o, q, h, ho => by
    rw [cellsE, List.getElem?_append_right (by simp [cells4]; omega), show (i + 1) * 4 + o - (cells4 G C j p).length = i * 4 + o by simp [cells4]; omega, cellsE_get G C qs (j + 1) i o q (by simpa using h) ho, show j + 1 + i = j + (i + 1) by omega]
theorem cellsE_congr {G G' : Nat → Option Addr} {C C' : Nat → Nat} : ∀ (qs : List DepP) (j : Nat), (∀ p, 2 * j ≤ p → p < 2 * (j + qs.length) → G p = G' p ∧ C p = C' p) → cellsE G C j qs = cellsE G' C' j qs
  | [], _, _ => rfl
  | q :: qs, j, h => by
    have h0 := h (2 * j) (by omega) (by simp only [List.length_cons]; omega)
    have h1 := h (2 * j + 1) (by omega) (by simp only [List.length_cons]; omega)
    rw [cellsE, cellsE, cellsE_congr qs (j + 1) (fun p k1 k2 => h p (by omega) (by simp at k2 ⊢; omega))]
    unfold cells4
    rw [h0.1, h0.2, h1.1, h1.2]
/-- One slice of the row: its own, apart from the row and from the ones before it. -/
def SlE (w : World) (B top : Nat) (row : Option Nat) (G : Nat → Option Addr) (C : Nat → Nat) (p : Nat) (xs : List Int) : Prop :=
  OwI w B (G p) xs.length (C p) xs ∧ ∀ b o s, G p = some ⟨b, o, s⟩ → b < top ∧ row ≠ some b ∧ ∀ p', p' < p → ∀ b' o' s', G p' = some ⟨b', o', s'⟩ → b' ≠ b
/-- The row. -/
def OwE (w : World) (B top : Nat) (A : Option Addr) (n c : Nat) (ps : List DepP) : Prop :=
  (n ≤ 4194304 ∧ ps.length = n ∧ n ≤ c ∧ c ≤ 9223372036854775807) ∧ ∃ (G : Nat → Option Addr) (C : Nat → Nat), w.ownsRow B 56 4 (.slice A n c) n (cellsE G C 0 ps) ∧
    ∀ (i : Nat) (q : DepP), ps[i]? = some q → SlE w B top (Value.slice A n c).ownBlock G C (2 * i) q.l ∧ SlE w B top (Value.slice A n c).ownBlock G C (2 * i + 1) q.r
theorem OwE.nil (w : World) (B top : Nat) : OwE w B top none 0 0 [] := ⟨⟨by omega, rfl, by omega, by omega⟩, fun _ => none, fun _ => 0, World.ownsRow_nil _ _ _ _, fun i q h => by simp at h⟩
theorem OwE.none0 {w : World} {B : Nat} (hB : B ≤ w.heap.size) (top : Nat) : OwE (w.alloc (.cells #[] 56)) B top (some ⟨w.heap.size, 0, none⟩) 0 0 [] :=
  ⟨⟨by omega, rfl, by omega, by omega⟩, fun _ => none, fun _ => 0, World.ownsRow_made w #[] 0 hB (by decide) rfl, fun i q h => by simp at h⟩
section
variable {w w' : World} {B top n c : Nat} {A : Option Addr} {ps : List DepP}
theorem OwE.mono {top' : Nat} (h : OwE w B top A n c ps) (ht : top ≤ top') : OwE w B top' A n c ps := by
  obtain ⟨h1, G, C, h2, h3⟩ := h
  refine ⟨h1, G, C, h2, fun i q hq => ?_⟩
  obtain ⟨⟨k1, k2⟩, k3, k4⟩ := h3 i q hq
  exact ⟨⟨k1, fun b o s e => ⟨by have := (k2 b o s e).1; omega, (k2 b o s e).2⟩⟩, k3, fun b o s e => ⟨by have := (k4 b o s e).1; omega, (k4 b o s e).2⟩⟩
theorem ownsRow_ext {T : TypeId} {sz : Nat} {v : Value} {vs : List Value} (h : w.ownsRow B T sz v n vs) (k : Ext w w') : w'.ownsRow B T sz v n vs := by
  refine ⟨h.1, ?_⟩
  rcases h.2 with h2 | ⟨g, cap, cur, hv, hg, hh, r⟩
  · exact .inl h2
  · exact .inr ⟨g, cap, cur, hv, hg, (k.block g (Array.getElem?_eq_some_iff.1 hh).1).trans hh, r⟩
theorem OwE.ext (h : OwE w B top A n c ps) (k : Ext w w') : OwE w' B top A n c ps := by
  obtain ⟨h1, G, C, h2, h3⟩ := h
  refine ⟨h1, G, C, ownsRow_ext h2 k, fun i q hq => ?_⟩
  obtain ⟨⟨k1, k2⟩, k3, k4⟩ := h3 i q hq
  exact ⟨⟨k1.ext k, k2⟩, k3.ext k, k4⟩
theorem OwE.lower {B' : Nat} (h : OwE w B top A n c ps) (hB : B' ≤ B) : OwE w B' top A n c ps := by
  obtain ⟨h1, G, C, h2, h3⟩ := h
  refine ⟨h1, G, C, ⟨h2.1, ?_⟩, fun i q hq => ?_⟩
  · rcases h2.2 with h2 | ⟨g, cap, cur, hv, hg, r⟩
    · exact .inl h2
    · exact .inr ⟨g, cap, cur, hv, by omega, r⟩
  · obtain ⟨⟨k1, k2⟩, k3, k4⟩ := h3 i q hq
    exact ⟨⟨k1.lower hB, k2⟩, k3.lower hB, k4⟩
theorem OwE.ob (h : OwE w B top A n c ps) : ∀ b, (Value.slice A n c).ownBlock = some b → B ≤ b ∧ b < w.heap.size := by
  obtain ⟨h1, G, C, h2, h3⟩ := h
  intro b hb
  rcases h2.2 with ⟨e, _⟩ | ⟨g, cap, cur, e, hg, hh, _⟩
  · cases e; cases hb
  · cases e; cases hb; exact ⟨hg, (Array.getElem?_eq_some_iff.1 hh).1⟩
/-- One more pair, its slices in blocks behind the bound. -/
theorem OwE.push {wx : World} {g cap top' c1 c2 : Nat} {A1 A2 : Option Addr} {q : DepP} {o : Obj} (h : OwE w B top A n c ps) (hn1 : n + 1 ≤ 4194304) (h1 : OwI w B A1 q.l.length c1 q.l) (h2 : OwI w B A2 q.r.length c2 q.r)
    (hA1 : ∀ b o s, A1 = some ⟨b, o, s⟩ → top ≤ b ∧ b < top') (hA2 : ∀ b o s, A2 = some ⟨b, o, s⟩ → top ≤ b ∧ b < top') (h12 : ∀ b o s b' o' s', A1 = some ⟨b, o, s⟩ → A2 = some ⟨b', o', s'⟩ → b ≠ b') (htop : top ≤ top') (hrow : ∀ b, (Value.slice A n c).ownBlock = some b → b < top)
    (hcap : n + 1 ≤ cap ∧ cap ≤ 9223372036854775807)
    (hown : ∀ vs, w.ownsRow B 56 4 (.slice A n c) n vs → wx.ownsRow B 56 4 (.slice (some ⟨g, 0, none⟩) (n + 1) cap) (n + 1) (vs ++ [.slice A1 q.l.length c1, .slice A2 q.r.length c2, .int .i64 q.rule, .int .i64 q.at_]))
    (hg : (w.alloc o).grownBy wx (Value.slice A n c).ownBlock) (hat : (Value.slice A n c).ownBlock = some g ∨ g = (w.alloc o).heap.size) (ht' : top' ≤ w.heap.size) : OwE wx B top' (some ⟨g, 0, none⟩) (n + 1) cap (ps ++ [q]) := by
  obtain ⟨⟨hn, hl, hnc, hc⟩, G, C, ho, hs⟩ := h
  have hob : ∀ b, (Value.slice A n c).ownBlock = some b → b < top := hrow
  have hkeep : ∀ {X : Option Addr} {m d : Nat} {xs : List Int}, OwI w B X m d xs → (∀ b o s, X = some ⟨b, o, s⟩ → (Value.slice A n c).ownBlock ≠ some b) → OwI wx B X m d xs := fun hX hne => hX.heap fun b e => by
    have hb := (hX.bd b 0 none e).2
    refine (hg.block b (by simp; omega) (fun e2 => hne b 0 none e e2.symm)).trans ?_
    exact ((Ext.refl w).alloc o).block b hb
  have hrow' : ∀ b, b < top' → (Value.slice A n c).ownBlock ≠ some b → (Value.slice (some ⟨g, 0, none⟩) (n + 1) cap).ownBlock ≠ some b := fun b hb hne e => by
    have e' : g = b := by simpa [Value.ownBlock] using e
    subst e'
    rcases hat with h5 | h5
    · exact hne h5
    · simp at h5; omega
  refine ⟨⟨hn1, by simp [hl], hcap⟩, fun p => if p = 2 * n then A1 else if p = 2 * n + 1 then A2 else G p, fun p => if p = 2 * n then c1 else if p = 2 * n + 1 then c2 else C p, ?_, fun i p hp => ?_⟩
  · have := hown _ ho
    rw [cellsE_snoc, cellsE_congr (G' := G) (C' := C) ps 0 (fun p k1 k2 => ⟨by simp [show ¬ p = 2 * n by omega, show ¬ p = 2 * n + 1 by omega], by simp [show ¬ p = 2 * n by omega, show ¬ p = 2 * n + 1 by omega]⟩)]
    have e4 : cells4 (fun p => if p = 2 * n then A1 else if p = 2 * n + 1 then A2 else G p) (fun p => if p = 2 * n then c1 else if p = 2 * n + 1 then c2 else C p) (0 + ps.length) q = [.slice A1 q.l.length c1, .slice A2 q.r.length c2, .int .i64 q.rule, .int .i64 q.at_] := by
      unfold cells4
      rw [Nat.zero_add, hl]
      simp
    rw [e4]
    exact this
  · rcases Nat.lt_or_ge i n with hi | hi
    · rw [List.getElem?_append_left (by omega)] at hp
      obtain ⟨⟨k1, k2⟩, k3, k4⟩ := hs i p hp
      refine ⟨⟨?_, fun b o s e => ?_⟩, ?_, fun b o s e => ?_⟩
      · simp only; rw [if_neg (by omega), if_neg (by omega), if_neg (by omega), if_neg (by omega)]
        exact hkeep k1 fun b o s e => (k2 b o s e).2.1
      · simp only at e; rw [if_neg (by omega), if_neg (by omega)] at e
        obtain ⟨m1, m2, m3⟩ := k2 b o s e
        refine ⟨by omega, hrow' b (by omega) m2, fun p' hp' b' o' s' e' => ?_⟩
        simp only at e'; rw [if_neg (by omega), if_neg (by omega)] at e'
        exact m3 p' hp' b' o' s' e'
      · simp only; rw [if_neg (by omega), if_neg (by omega), if_neg (by omega), if_neg (by omega)]
        exact hkeep k3 fun b o s e => (k4 b o s e).2.1
      · simp only at e; rw [if_neg (by omega), if_neg (by omega)] at e
        obtain ⟨m1, m2, m3⟩ := k4 b o s e
        refine ⟨by omega, hrow' b (by omega) m2, fun p' hp' b' o' s' e' => ?_⟩
        simp only at e'; rw [if_neg (by omega), if_neg (by omega)] at e'
        exact m3 p' hp' b' o' s' e'
    · have hin : i = n := by
        have := (List.getElem?_eq_some_iff.1 hp).1
        simp at this; omega
      subst hin
      rw [List.getElem?_append_right (by omega), hl, Nat.sub_self] at hp
      cases hp
      have hold : ∀ p' b' o' s', p' < 2 * i → G p' = some ⟨b', o', s'⟩ → b' < top := fun p' b' o' s' hp' e => by
        have hx : p' / 2 < ps.length := by omega
        obtain ⟨⟨_, k2⟩, _, k4⟩ := hs (p' / 2) ps[p' / 2] (List.getElem?_eq_getElem hx)
        rcases Nat.mod_two_eq_zero_or_one p' with h0 | h0
        · exact (k2 b' o' s' (by rw [show 2 * (p' / 2) = p' by omega]; exact e)).1
        · exact (k4 b' o' s' (by rw [show 2 * (p' / 2) + 1 = p' by omega]; exact e)).1
      have hne : ∀ b, top ≤ b → (Value.slice A i c).ownBlock ≠ some b := fun b hb e => by have := hob b e; omega
      refine ⟨⟨?_, fun b o s e => ?_⟩, ?_, fun b o s e => ?_⟩
      · simp only [if_true]
        exact hkeep h1 fun b o s e => hne b (hA1 b o s e).1
      · simp only [if_true] at e
        have hb := hA1 b o s e
        refine ⟨hb.2, hrow' b hb.2 (hne b hb.1), fun p' hp' b' o' s' e' => ?_⟩
        simp only at e'; rw [if_neg (by omega), if_neg (by omega)] at e'
        have := hold p' b' o' s' hp' e'; omega
      · simp only [if_true]; rw [if_neg (by omega), if_neg (by omega)]
        exact hkeep h2 fun b o s e => hne b (hA2 b o s e).1
      · simp only [if_true] at e; rw [if_neg (by omega)] at e
        have hb := hA2 b o s e
        refine ⟨hb.2, hrow' b hb.2 (hne b hb.1), fun p' hp' b' o' s' e' => ?_⟩
        simp only at e'
        by_cases hp2 : p' = 2 * i
        · rw [if_pos hp2] at e'
          exact h12 b' o' s' b o s e' e
        · rw [if_neg hp2, if_neg (by omega)] at e'
          have := hold p' b' o' s' (by omega) e'; omega
end
/-- Pairs that are there to be read, with the room of their slices. -/
def RE (w : World) (A : Option Addr) (n : Nat) (ps : List DepP) : Prop :=
  (ps.length = n ∧ n ≤ 4194304) ∧ ∀ (i : Nat) (q : DepP), ps[i]? = some q → ∃ b o A1 n1 c1 A2 n2 c2, A = some ⟨b, o, none⟩ ∧ w.cell? ⟨b, o + i * 4, none⟩ = some (.slice A1 n1 c1) ∧ w.cell? ⟨b, o + i * 4 + 1, none⟩ = some (.slice A2 n2 c2) ∧
    w.cell? ⟨b, o + i * 4 + 2, none⟩ = some (.int .i64 q.rule) ∧ w.cell? ⟨b, o + i * 4 + 3, none⟩ = some (.int .i64 q.at_) ∧ (n1 ≤ c1 ∧ c1 ≤ 9223372036854775807) ∧ (n2 ≤ c2 ∧ c2 ≤ 9223372036854775807) ∧ RI w A1 n1 q.l ∧ RI w A2 n2 q.r
theorem RE.ext {w w' : World} {A : Option Addr} {n : Nat} {ps : List DepP} (h : RE w A n ps) (k : Ext w w') : RE w' A n ps :=
  ⟨h.1, fun i q hq => by
    obtain ⟨b, o, A1, n1, c1, A2, n2, c2, e, h1, h2, h3, h4, h5, h6, h7, h8⟩ := h.2 i q hq
    exact ⟨b, o, A1, n1, c1, A2, n2, c2, e, Ext.keep k h1, Ext.keep k h2, Ext.keep k h3, Ext.keep k h4, h5, h6, h7.ext k, h8.ext k⟩⟩
theorem RE.nil (w : World) (A : Option Addr) : RE w A 0 [] := ⟨⟨rfl, by omega⟩, fun i q h => by simp at h⟩
theorem RE.at_ {w : World} {A : Option Addr} {n i : Nat} {ps : List DepP} (h : RE w A n ps) (hi : i < n) : ∃ q b o A1 n1 c1 A2 n2 c2, ps[i]? = some q ∧ A = some ⟨b, o, none⟩ ∧ w.cell? ⟨b, o + i * 4, none⟩ = some (.slice A1 n1 c1) ∧ w.cell? ⟨b, o + i * 4 + 1, none⟩ = some (.slice A2 n2 c2) ∧
    w.cell? ⟨b, o + i * 4 + 2, none⟩ = some (.int .i64 q.rule) ∧ w.cell? ⟨b, o + i * 4 + 3, none⟩ = some (.int .i64 q.at_) ∧ (n1 ≤ c1 ∧ c1 ≤ 9223372036854775807) ∧ (n2 ≤ c2 ∧ c2 ≤ 9223372036854775807) ∧ RI w A1 n1 q.l ∧ RI w A2 n2 q.r := by
  have hl : i < ps.length := by rw [h.1.1]; exact hi
  obtain ⟨b, o, A1, n1, c1, A2, n2, c2, r⟩ := h.2 i _ (List.getElem?_eq_getElem hl)
  exact ⟨_, b, o, A1, n1, c1, A2, n2, c2, List.getElem?_eq_getElem hl, r⟩
theorem OwE.re {w : World} {B top n c : Nat} {A : Option Addr} {ps : List DepP} (h : OwE w B top A n c ps) : RE w A n ps := by
  obtain ⟨⟨hn, hl, hnc, hc⟩, G, C, ho, hs⟩ := h
  refine ⟨⟨hl, hn⟩, fun i q hq => ?_⟩
  have hi : i < n := by have := (List.getElem?_eq_some_iff.1 hq).1; omega
  obtain ⟨g, cap, hv, _, _⟩ := World.ownsRow.form ho (by omega)
  cases hv
  have hcell : ∀ o, o < 4 → w.cell? ⟨g, i * 4 + o, none⟩ = (cells4 G C i q)[o]? := fun o h4 => by
    have h1 := World.ownsRow.cellAt ho (i * 4 + o) (by omega)
    rw [h1, cellsE_get G C ps 0 i o q hq h4, Nat.zero_add]
  obtain ⟨k1, k3⟩ := hs i q hq
  exact ⟨g, 0, _, _, _, _, _, _, rfl, by rw [Nat.zero_add]; exact hcell 0 (by omega), by rw [Nat.zero_add]; exact hcell 1 (by omega), by rw [Nat.zero_add]; exact hcell 2 (by omega), by rw [Nat.zero_add]; exact hcell 3 (by omega), k1.1.cap, k3.1.cap, k1.1.ri, k3.1.ri⟩

/-! The pair of a rule at a place, with what the call owns. -/
/-- A pair of the call's own, or none. -/
def NewDw (w : World) (o : Option DepP) (e : Ending) (w' : World) : Prop := ∃ (A : Option Addr) (n c : Nat) (B : Option Addr) (m d : Nat) (k a : Int), e = .returned (.tuple #[.agg #[.slice A n c, .slice B m d, .int .i64 k, .int .i64 a], .bool o.isSome]) ∧
  (∀ q, o = some q → k = q.rule ∧ a = q.at_ ∧ OwI w' w.heap.size A n c q.l ∧ OwI w' w.heap.size B m d q.r ∧ ∀ b o s b' o' s', A = some ⟨b, o, s⟩ → B = some ⟨b', o', s'⟩ → b ≠ b') ∧ Ext w w'
theorem OwI.set4 {w : World} {B n c p : Nat} {A : Option Addr} {xs : List Int} {v0 v1 v2 v3 : Value} (h : OwI w B A n c xs) (hp : ∀ b o s, A = some ⟨b, o, s⟩ → b ≠ p) :
    OwI ((((w.setCell ⟨p, 0, none⟩ v0).setCell ⟨p, 1, none⟩ v1).setCell ⟨p, 2, none⟩ v2).setCell ⟨p, 3, none⟩ v3) B A n c xs :=
  (((h.setFar _ hp).setFar _ hp).setFar _ hp).setFar _ hp
set_option maxRecDepth 100000 in
set_option maxHeartbeats 4000000 in
theorem c_l17AtO {v0 : Value} {s : Sy} {k a : Nat} {r : Ru} {x : Int} {w : World} (h0 : RdSyC w v0 s) (hs : SysP s) (hr : s.rs[k]? = some r) (hx : r.r[a]? = some x) :
    Calls Try.prog 50 #[v0, (.int .i64 (k : Int)), (.int .i64 (a : Int))] w (NewDw w (depOf s r k a x)) := by
  obtain ⟨A, n, c, B, m, d, rfl, ha, hb⟩ := h0
  have hkm : k < m := by have := (List.getElem?_eq_some_iff.1 hr).1; rw [hb.len] at this; exact this
  obtain ⟨b, o, r', A1, m1, c1, A2, m2, c2, rfl, hx', hd1, hd2, hr1, hr2, hcap1, hcap2⟩ := RR.at_ hb hkm
  rw [hr] at hx'; cases hx'
  have hrp := hs.2.2 k r hr
  have ham : a < m2 := by have := (List.getElem?_eq_some_iff.1 hx).1; rw [hr2.len] at this; exact this
  obtain ⟨b2, o2, x', rfl, hxx, hcx⟩ := RI.at_ hr2 ham
  rw [hx] at hxx; cases hxx
  obtain ⟨hok, rest, hdr⟩ := subT_ok hrp.2.1 (show a < r.r.length from (List.getElem?_eq_some_iff.1 hx).1)
  have HA := Lib.hid ha
  have HB := Lib.hid hb
  have HS := Lib.hid hs
  have HSG := Lib.hid (show SigP s.ar from hs.1)
  have HR1 := Lib.hid hr1
  have HR2 := Lib.hid hr2
  have HC1 := Lib.hid (hcap1 rfl)
  have HC2 := Lib.hid (hcap2 rfl)
  have HTL := Lib.hid hrp.1
  have HOK := Lib.hid hok
  have HDR := Lib.hid hdr
  have hki : (k : Int) < (m : Int) := by omega
  have hk0 : (0 : Int) ≤ (k : Int) := by omega
  have hai : (a : Int) < (m2 : Int) := by omega
  have ha0 : (0 : Int) ≤ (a : Int) := by omega
  have hbl : b < w.heap.size := World.block_lt_of_cell? w _ hd1
  have hbl2 : b2 < w.heap.size := World.block_lt_of_cell? w _ hcx
  clear ha hb hs hr1 hr2 hcap1 hcap2 hrp hok hdr
  go_enter Try.func50, Try.ntmps50
  go_wp2_with fail
  obtain ⟨w1, hw1⟩ : ∃ w1, w1 = ((w.alloc (.cells #[.slice A n c, .slice (some ⟨b, o, none⟩) m d] 49)).alloc (.cells #[.slice none 0 0, .slice none 0 0, .int .i64 0, .int .i64 0] 56)).alloc (.cells #[.slice A1 m1 c1, .slice (some ⟨b2, o2, none⟩) m2 c2] 78) := ⟨_, rfl⟩
  have hs0 : w1.cell? ⟨w.heap.size, 0, none⟩ = some (.slice A n c) := by rw [hw1]; simp [go_sem]
  have hs1 : w1.cell? ⟨w.heap.size, 1, none⟩ = some (.slice (some ⟨b, o, none⟩) m d) := by rw [hw1]; simp [go_sem]
  have hp0 : w1.cell? ⟨w.heap.size + 1, 0, none⟩ = some (.slice none 0 0) := by rw [hw1]; simp [go_sem]
  have hp1 : w1.cell? ⟨w.heap.size + 1, 1, none⟩ = some (.slice none 0 0) := by rw [hw1]; simp [go_sem]
  have hp2 : w1.cell? ⟨w.heap.size + 1, 2, none⟩ = some (.int .i64 0) := by rw [hw1]; simp [go_sem]
  have hp3 : w1.cell? ⟨w.heap.size + 1, 3, none⟩ = some (.int .i64 0) := by rw [hw1]; simp [go_sem]
  have hpf : ∀ j, w1.frozen? ⟨w.heap.size + 1, j, none⟩ = false := by intro j; rw [hw1]; simp [go_sem]
  have hq0 : w1.cell? ⟨w.heap.size + 1 + 1, 0, none⟩ = some (.slice A1 m1 c1) := by rw [hw1]; simp [go_sem]
  have hq1 : w1.cell? ⟨w.heap.size + 1 + 1, 1, none⟩ = some (.slice (some ⟨b2, o2, none⟩) m2 c2) := by rw [hw1]; simp [go_sem]
  have hE1 : Ext w w1 := by rw [hw1]; exact extX
  rw [← hw1]
  clear hw1
  have hcx1 := Ext.keep hE1 hcx
  by_cases hx0 : x < 0
  · have HR := Lib.hid (show depOf s r k a x = none by unfold depOf; rw [if_pos hx0])
    go_quiet (fail)
    go_wp2
    refine bodyPost_ret (v := .tuple #[.agg #[.slice none 0 0, .slice none 0 0, .int .i64 0, .int .i64 0], .bool false]) (by simp [results, Try.results50, go_sem, hp0, hp1, hp2, hp3, hpf]) rfl ?_
    rw [HR.out]
    exact ⟨none, 0, 0, none, 0, 0, 0, 0, rfl, (fun q e => by cases e), by exact extX⟩
  · have hd0 : decide (x < 0) = false := by simpa using hx0
    cases hdf : dfd s x with
    | false =>
      have HR := Lib.hid (show depOf s r k a x = none by unfold depOf; rw [if_neg hx0, if_pos hdf])
      have HD := Lib.hid hdf
      clear hdf
      refine wp_region_held_drew (S := (fun w' => w'.cell? ⟨w.heap.size, 0, none⟩ = some (.slice A n c) ∧ w'.cell? ⟨w.heap.size, 1, none⟩ = some (.slice (some ⟨b, o, none⟩) m d) ∧ w'.cell? ⟨w.heap.size + 1 + 1, 1, none⟩ = some (.slice (some ⟨b2, o2, none⟩) m2 c2) ∧ w'.cell? ⟨b2, o2 + a, none⟩ = some (.int .i64 x) ∧ Ext w1 w')) (by kernel_rfl) ?_ (fun hH => ?_)
      · exact ⟨hs0, hs1, hq1, hcx1, (Ext.refl w1).drew⟩
      refine wpAnyH_take_dst (i := 0) (v := .pointer (some ⟨w.heap.size + 1 + 1, 1, none⟩)) (d := some 15) rfl rfl (by kernel_rfl) (by kernel_rfl) (by kernel_rfl) (fun _ _ _ h => h) (Or.inl ⟨by rfl, ?_⟩) hH ?_
      · (intro w hSw; (try dsimp only at hSw); go_split_ands; go_simp; try with_reducible rfl)
      try simp only [Act.put, List.setIfInBounds_toArray, List.set_cons_zero, List.set_cons_succ]
      refine wpAnyH_take_dst (i := 1) (v := .slice (some ⟨b2, o2, none⟩) m2 c2) (d := some 16) rfl rfl (by kernel_rfl) (by kernel_rfl) (by kernel_rfl) (fun _ _ _ h => h) (Or.inl ⟨by rfl, ?_⟩) hH ?_
      · (intro w hSw; (try dsimp only at hSw); go_split_ands; go_simp; try with_reducible rfl)
      try simp only [Act.put, List.setIfInBounds_toArray, List.set_cons_zero, List.set_cons_succ]
      refine wpAnyH_take_dst (i := 2) (v := .int .i64 (a : Int)) (d := some 17) rfl rfl (by kernel_rfl) (by kernel_rfl) (by kernel_rfl) (fun _ _ _ h => h) (Or.inl ⟨by rfl, ?_⟩) hH ?_
      · (intro w hSw; (try dsimp only at hSw); go_split_ands; go_simp; try with_reducible rfl)
      try simp only [Act.put, List.setIfInBounds_toArray, List.set_cons_zero, List.set_cons_succ]
      refine wpAnyH_take_dst (i := 3) (v := .pointer (some ⟨b2, o2 + a, none⟩)) (d := some 18) rfl rfl (by kernel_rfl) (by kernel_rfl) (by kernel_rfl) (fun _ _ _ h => h) (Or.inl ⟨by rfl, ?_⟩) hH ?_
      · (intro w hSw; (try dsimp only at hSw); go_split_ands; go_simp; try with_reducible rfl)
      try simp only [Act.put, List.setIfInBounds_toArray, List.set_cons_zero, List.set_cons_succ]
      refine wpAnyH_take_dst (i := 4) (v := .int .i64 x) (d := some 19) rfl rfl (by kernel_rfl) (by kernel_rfl) (by kernel_rfl) (fun _ _ _ h => h) (Or.inl ⟨by rfl, ?_⟩) hH ?_
      · (intro w hSw; (try dsimp only at hSw); go_split_ands; go_simp; try with_reducible rfl)
      try simp only [Act.put, List.setIfInBounds_toArray, List.set_cons_zero, List.set_cons_succ]
      refine wpAnyH_take_dst (i := 5) (v := .bool false) (d := some 20) rfl rfl (by kernel_rfl) (by kernel_rfl) (by kernel_rfl) (fun _ _ _ h => h) (Or.inl ⟨by rfl, ?_⟩) hH ?_
      · (intro w hSw; (try dsimp only at hSw); go_split_ands; go_simp; try with_reducible rfl)
      try simp only [Act.put, List.setIfInBounds_toArray, List.set_cons_zero, List.set_cons_succ]
      refine wpAnyH_take_dst (i := 6) (v := .bool false) (d := some 21) rfl rfl (by kernel_rfl) (by kernel_rfl) (by kernel_rfl) (fun _ _ _ h => h) (Or.inl ⟨by rfl, ?_⟩) hH ?_
      · (intro w hSw; (try dsimp only at hSw); go_split_ands; go_simp; try with_reducible rfl)
      try simp only [Act.put, List.setIfInBounds_toArray, List.set_cons_zero, List.set_cons_succ]
      refine wpAnyH_take_dst (i := 7) (v := .agg #[.slice A n c, .slice (some ⟨b, o, none⟩) m d]) (d := some 22) rfl rfl (by kernel_rfl) (by kernel_rfl) (by kernel_rfl) (fun _ _ _ h => h) (Or.inl ⟨by rfl, ?_⟩) hH ?_
      · (intro w hSw; (try dsimp only at hSw); go_split_ands; go_simp; try with_reducible rfl)
      try simp only [Act.put, List.setIfInBounds_toArray, List.set_cons_zero, List.set_cons_succ]
      refine wpAnyH_take_dst (i := 9) (v := .pointer (some ⟨w.heap.size + 1 + 1, 1, none⟩)) (d := some 24) rfl rfl (by kernel_rfl) (by kernel_rfl) (by kernel_rfl) (fun _ _ _ h => h) (Or.inl ⟨by rfl, ?_⟩) hH ?_
      · (intro w hSw; (try dsimp only at hSw); go_split_ands; go_simp; try with_reducible rfl)
      try simp only [Act.put, List.setIfInBounds_toArray, List.set_cons_zero, List.set_cons_succ]
      refine wpAnyH_take_dst (i := 10) (v := .slice (some ⟨b2, o2, none⟩) m2 c2) (d := some 25) rfl rfl (by kernel_rfl) (by kernel_rfl) (by kernel_rfl) (fun _ _ _ h => h) (Or.inl ⟨by rfl, ?_⟩) hH ?_
      · (intro w hSw; (try dsimp only at hSw); go_split_ands; go_simp; try with_reducible rfl)
      try simp only [Act.put, List.setIfInBounds_toArray, List.set_cons_zero, List.set_cons_succ]
      refine wpAnyH_take_dst (i := 11) (v := .int .i64 (a : Int)) (d := some 26) rfl rfl (by kernel_rfl) (by kernel_rfl) (by kernel_rfl) (fun _ _ _ h => h) (Or.inl ⟨by rfl, ?_⟩) hH ?_
      · (intro w hSw; (try dsimp only at hSw); go_split_ands; go_simp; try with_reducible rfl)
      try simp only [Act.put, List.setIfInBounds_toArray, List.set_cons_zero, List.set_cons_succ]
      refine wpAnyH_take_dst (i := 12) (v := .pointer (some ⟨b2, o2 + a, none⟩)) (d := some 27) rfl rfl (by kernel_rfl) (by kernel_rfl) (by kernel_rfl) (fun _ _ _ h => h) (Or.inl ⟨by rfl, ?_⟩) hH ?_
      · (intro w hSw; (try dsimp only at hSw); go_split_ands; go_simp; try with_reducible rfl)
      try simp only [Act.put, List.setIfInBounds_toArray, List.set_cons_zero, List.set_cons_succ]
      refine wpAnyH_take_dst (i := 13) (v := .int .i64 x) (d := some 28) rfl rfl (by kernel_rfl) (by kernel_rfl) (by kernel_rfl) (fun _ _ _ h => h) (Or.inl ⟨by rfl, ?_⟩) hH ?_
      · (intro w hSw; (try dsimp only at hSw); go_split_ands; go_simp; try with_reducible rfl)
      try simp only [Act.put, List.setIfInBounds_toArray, List.set_cons_zero, List.set_cons_succ]
      refine wpAnyH_ready (rs := [8]) (by kernel_rfl) (by simp) ?_
      refine AllReadyH.cons rfl (fun K hK => ?_) AllReadyH.nil
      rw [if_pos (by rfl)]
      go_wp2_with (go_at_call 78; (with_reducible refine ((c_l6Defined (s := s) (RdSyK.mk (RI.ext HA.out (Ext.trans hE1 hH.2.2.2.2)) (RR.ext HB.out (Ext.trans hE1 hH.2.2.2.2))) HS.out)).mono ?_); rintro e w8 ⟨A7, n7, c7, ys, rfl, hr7, hh7, hE9⟩)
      refine hK.out _ _ ⟨Ext.keep hE9 hH.1, Ext.keep hE9 hH.2.1, Ext.keep hE9 hH.2.2.1, Ext.keep hE9 hH.2.2.2.1, Ext.trans hH.2.2.2.2 hE9⟩ (fun hH9 => ?_)
      clear hK hH; have hH := hH9; clear hH9
      try simp only [Act.put, List.setIfInBounds_toArray, List.set_cons_zero, List.set_cons_succ]
      refine wpAnyH_ready (rs := [14]) (by kernel_rfl) (by simp) ?_
      refine AllReadyH.cons rfl (fun K hK => ?_) AllReadyH.nil
      rw [if_pos (by rfl)]
      go_wp2_with (go_at_call 77; (with_reducible refine ((c_l1Has' (x := x) ((HeadsTo.all hh7 x).trans HD.out) (RdI.mk hr7))).mono ?_); rintro e w9 ⟨rfl, hE9⟩)
      refine hK.out _ _ ⟨Ext.keep hE9 hH.1, Ext.keep hE9 hH.2.1, Ext.keep hE9 hH.2.2.1, Ext.keep hE9 hH.2.2.2.1, Ext.trans hH.2.2.2.2 hE9⟩ (fun hH9 => ?_)
      clear hK hH; have hH := hH9; clear hH9
      try simp only [Act.put, List.setIfInBounds_toArray, List.set_cons_zero, List.set_cons_succ]
      refine wpAnyH_take_dst (i := 15) (v := .bool true) (d := some 30) rfl rfl (by kernel_rfl) (by kernel_rfl) (by kernel_rfl) (fun _ _ _ h => h) (Or.inl ⟨by rfl, ?_⟩) hH ?_
      · (intro w hSw; (try dsimp only at hSw); go_split_ands; go_simp; try with_reducible rfl)
      try simp only [Act.put, List.setIfInBounds_toArray, List.set_cons_zero, List.set_cons_succ]
      refine wpAnyH_take_dst (i := 16) (v := .bool true) (d := some 31) rfl rfl (by kernel_rfl) (by kernel_rfl) (by kernel_rfl) (fun _ _ _ h => h) (Or.inl ⟨by rfl, ?_⟩) hH ?_
      · (intro w hSw; (try dsimp only at hSw); go_split_ands; go_simp; try with_reducible rfl)
      try simp only [Act.put, List.setIfInBounds_toArray, List.set_cons_zero, List.set_cons_succ]
      refine wpAnyH_done (by kernel_rfl) ?_ _
      have hE9 := hH.2.2.2.2
      obtain ⟨k0, k1, k2, k3, kf⟩ : w9.cell? ⟨w.heap.size + 1, 0, none⟩ = some (.slice none 0 0) ∧ w9.cell? ⟨w.heap.size + 1, 1, none⟩ = some (.slice none 0 0) ∧ w9.cell? ⟨w.heap.size + 1, 2, none⟩ = some (.int .i64 0) ∧ w9.cell? ⟨w.heap.size + 1, 3, none⟩ = some (.int .i64 0) ∧ ∀ j, w9.frozen? ⟨w.heap.size + 1, j, none⟩ = false :=
        ⟨Ext.keep hE9 hp0, Ext.keep hE9 hp1, Ext.keep hE9 hp2, Ext.keep hE9 hp3, fun j => (Below.frozen (p := ⟨w.heap.size + 1, j, none⟩) hE9 (by have := World.block_lt_of_cell? w1 _ hp0; exact this)).trans (hpf j)⟩
      have hEw9 : Ext w w9 := Ext.trans hE1 hE9
      clear hH
      go_wp2
      refine bodyPost_ret (v := .tuple #[.agg #[.slice none 0 0, .slice none 0 0, .int .i64 0, .int .i64 0], .bool false]) (by simp [results, Try.results50, go_sem, k0, k1, k2, k3, kf]) rfl ?_
      rw [HR.out]
      exact ⟨none, 0, 0, none, 0, 0, 0, 0, rfl, (fun q e => by cases e), by exact extX⟩
    | true =>
      have HD := Lib.hid hdf
      refine wp_region_held_drew (S := (fun w' => w'.cell? ⟨w.heap.size, 0, none⟩ = some (.slice A n c) ∧ w'.cell? ⟨w.heap.size, 1, none⟩ = some (.slice (some ⟨b, o, none⟩) m d) ∧ w'.cell? ⟨w.heap.size + 1 + 1, 1, none⟩ = some (.slice (some ⟨b2, o2, none⟩) m2 c2) ∧ w'.cell? ⟨b2, o2 + a, none⟩ = some (.int .i64 x) ∧ Ext w1 w')) (by kernel_rfl) ?_ (fun hH => ?_)
      · exact ⟨hs0, hs1, hq1, hcx1, (Ext.refl w1).drew⟩
      refine wpAnyH_take_dst (i := 0) (v := .pointer (some ⟨w.heap.size + 1 + 1, 1, none⟩)) (d := some 15) rfl rfl (by kernel_rfl) (by kernel_rfl) (by kernel_rfl) (fun _ _ _ h => h) (Or.inl ⟨by rfl, ?_⟩) hH ?_
      · (intro w hSw; (try dsimp only at hSw); go_split_ands; go_simp; try with_reducible rfl)
      try simp only [Act.put, List.setIfInBounds_toArray, List.set_cons_zero, List.set_cons_succ]
      refine wpAnyH_take_dst (i := 1) (v := .slice (some ⟨b2, o2, none⟩) m2 c2) (d := some 16) rfl rfl (by kernel_rfl) (by kernel_rfl) (by kernel_rfl) (fun _ _ _ h => h) (Or.inl ⟨by rfl, ?_⟩) hH ?_
      · (intro w hSw; (try dsimp only at hSw); go_split_ands; go_simp; try with_reducible rfl)
      try simp only [Act.put, List.setIfInBounds_toArray, List.set_cons_zero, List.set_cons_succ]
      refine wpAnyH_take_dst (i := 2) (v := .int .i64 (a : Int)) (d := some 17) rfl rfl (by kernel_rfl) (by kernel_rfl) (by kernel_rfl) (fun _ _ _ h => h) (Or.inl ⟨by rfl, ?_⟩) hH ?_
      · (intro w hSw; (try dsimp only at hSw); go_split_ands; go_simp; try with_reducible rfl)
      try simp only [Act.put, List.setIfInBounds_toArray, List.set_cons_zero, List.set_cons_succ]
      refine wpAnyH_take_dst (i := 3) (v := .pointer (some ⟨b2, o2 + a, none⟩)) (d := some 18) rfl rfl (by kernel_rfl) (by kernel_rfl) (by kernel_rfl) (fun _ _ _ h => h) (Or.inl ⟨by rfl, ?_⟩) hH ?_
      · (intro w hSw; (try dsimp only at hSw); go_split_ands; go_simp; try with_reducible rfl)
      try simp only [Act.put, List.setIfInBounds_toArray, List.set_cons_zero, List.set_cons_succ]
      refine wpAnyH_take_dst (i := 4) (v := .int .i64 x) (d := some 19) rfl rfl (by kernel_rfl) (by kernel_rfl) (by kernel_rfl) (fun _ _ _ h => h) (Or.inl ⟨by rfl, ?_⟩) hH ?_
      · (intro w hSw; (try dsimp only at hSw); go_split_ands; go_simp; try with_reducible rfl)
      try simp only [Act.put, List.setIfInBounds_toArray, List.set_cons_zero, List.set_cons_succ]
      refine wpAnyH_take_dst (i := 5) (v := .bool false) (d := some 20) rfl rfl (by kernel_rfl) (by kernel_rfl) (by kernel_rfl) (fun _ _ _ h => h) (Or.inl ⟨by rfl, ?_⟩) hH ?_
      · (intro w hSw; (try dsimp only at hSw); go_split_ands; go_simp; try with_reducible rfl)
      try simp only [Act.put, List.setIfInBounds_toArray, List.set_cons_zero, List.set_cons_succ]
      refine wpAnyH_take_dst (i := 6) (v := .bool false) (d := some 21) rfl rfl (by kernel_rfl) (by kernel_rfl) (by kernel_rfl) (fun _ _ _ h => h) (Or.inl ⟨by rfl, ?_⟩) hH ?_
      · (intro w hSw; (try dsimp only at hSw); go_split_ands; go_simp; try with_reducible rfl)
      try simp only [Act.put, List.setIfInBounds_toArray, List.set_cons_zero, List.set_cons_succ]
      refine wpAnyH_take_dst (i := 7) (v := .agg #[.slice A n c, .slice (some ⟨b, o, none⟩) m d]) (d := some 22) rfl rfl (by kernel_rfl) (by kernel_rfl) (by kernel_rfl) (fun _ _ _ h => h) (Or.inl ⟨by rfl, ?_⟩) hH ?_
      · (intro w hSw; (try dsimp only at hSw); go_split_ands; go_simp; try with_reducible rfl)
      try simp only [Act.put, List.setIfInBounds_toArray, List.set_cons_zero, List.set_cons_succ]
      refine wpAnyH_take_dst (i := 9) (v := .pointer (some ⟨w.heap.size + 1 + 1, 1, none⟩)) (d := some 24) rfl rfl (by kernel_rfl) (by kernel_rfl) (by kernel_rfl) (fun _ _ _ h => h) (Or.inl ⟨by rfl, ?_⟩) hH ?_
      · (intro w hSw; (try dsimp only at hSw); go_split_ands; go_simp; try with_reducible rfl)
      try simp only [Act.put, List.setIfInBounds_toArray, List.set_cons_zero, List.set_cons_succ]
      refine wpAnyH_take_dst (i := 10) (v := .slice (some ⟨b2, o2, none⟩) m2 c2) (d := some 25) rfl rfl (by kernel_rfl) (by kernel_rfl) (by kernel_rfl) (fun _ _ _ h => h) (Or.inl ⟨by rfl, ?_⟩) hH ?_
      · (intro w hSw; (try dsimp only at hSw); go_split_ands; go_simp; try with_reducible rfl)
      try simp only [Act.put, List.setIfInBounds_toArray, List.set_cons_zero, List.set_cons_succ]
      refine wpAnyH_take_dst (i := 11) (v := .int .i64 (a : Int)) (d := some 26) rfl rfl (by kernel_rfl) (by kernel_rfl) (by kernel_rfl) (fun _ _ _ h => h) (Or.inl ⟨by rfl, ?_⟩) hH ?_
      · (intro w hSw; (try dsimp only at hSw); go_split_ands; go_simp; try with_reducible rfl)
      try simp only [Act.put, List.setIfInBounds_toArray, List.set_cons_zero, List.set_cons_succ]
      refine wpAnyH_take_dst (i := 12) (v := .pointer (some ⟨b2, o2 + a, none⟩)) (d := some 27) rfl rfl (by kernel_rfl) (by kernel_rfl) (by kernel_rfl) (fun _ _ _ h => h) (Or.inl ⟨by rfl, ?_⟩) hH ?_
      · (intro w hSw; (try dsimp only at hSw); go_split_ands; go_simp; try with_reducible rfl)
      try simp only [Act.put, List.setIfInBounds_toArray, List.set_cons_zero, List.set_cons_succ]
      refine wpAnyH_take_dst (i := 13) (v := .int .i64 x) (d := some 28) rfl rfl (by kernel_rfl) (by kernel_rfl) (by kernel_rfl) (fun _ _ _ h => h) (Or.inl ⟨by rfl, ?_⟩) hH ?_
      · (intro w hSw; (try dsimp only at hSw); go_split_ands; go_simp; try with_reducible rfl)
      try simp only [Act.put, List.setIfInBounds_toArray, List.set_cons_zero, List.set_cons_succ]
      refine wpAnyH_ready (rs := [8]) (by kernel_rfl) (by simp) ?_
      refine AllReadyH.cons rfl (fun K hK => ?_) AllReadyH.nil
      rw [if_pos (by rfl)]
      go_wp2_with (go_at_call 78; (with_reducible refine ((c_l6Defined (s := s) (RdSyK.mk (RI.ext HA.out (Ext.trans hE1 hH.2.2.2.2)) (RR.ext HB.out (Ext.trans hE1 hH.2.2.2.2))) HS.out)).mono ?_); rintro e w8 ⟨A7, n7, c7, ys, rfl, hr7, hh7, hE9⟩)
      refine hK.out _ _ ⟨Ext.keep hE9 hH.1, Ext.keep hE9 hH.2.1, Ext.keep hE9 hH.2.2.1, Ext.keep hE9 hH.2.2.2.1, Ext.trans hH.2.2.2.2 hE9⟩ (fun hH9 => ?_)
      clear hK hH; have hH := hH9; clear hH9
      try simp only [Act.put, List.setIfInBounds_toArray, List.set_cons_zero, List.set_cons_succ]
      refine wpAnyH_ready (rs := [14]) (by kernel_rfl) (by simp) ?_
      refine AllReadyH.cons rfl (fun K hK => ?_) AllReadyH.nil
      rw [if_pos (by rfl)]
      go_wp2_with (go_at_call 77; (with_reducible refine ((c_l1Has' (x := x) ((HeadsTo.all hh7 x).trans HD.out) (RdI.mk hr7))).mono ?_); rintro e w9 ⟨rfl, hE9⟩)
      refine hK.out _ _ ⟨Ext.keep hE9 hH.1, Ext.keep hE9 hH.2.1, Ext.keep hE9 hH.2.2.1, Ext.keep hE9 hH.2.2.2.1, Ext.trans hH.2.2.2.2 hE9⟩ (fun hH9 => ?_)
      clear hK hH; have hH := hH9; clear hH9
      try simp only [Act.put, List.setIfInBounds_toArray, List.set_cons_zero, List.set_cons_succ]
      refine wpAnyH_take_dst (i := 15) (v := .bool false) (d := some 30) rfl rfl (by kernel_rfl) (by kernel_rfl) (by kernel_rfl) (fun _ _ _ h => h) (Or.inl ⟨by rfl, ?_⟩) hH ?_
      · (intro w hSw; (try dsimp only at hSw); go_split_ands; go_simp; try with_reducible rfl)
      try simp only [Act.put, List.setIfInBounds_toArray, List.set_cons_zero, List.set_cons_succ]
      refine wpAnyH_take_dst (i := 16) (v := .bool false) (d := some 31) rfl rfl (by kernel_rfl) (by kernel_rfl) (by kernel_rfl) (fun _ _ _ h => h) (Or.inl ⟨by rfl, ?_⟩) hH ?_
      · (intro w hSw; (try dsimp only at hSw); go_split_ands; go_simp; try with_reducible rfl)
      try simp only [Act.put, List.setIfInBounds_toArray, List.set_cons_zero, List.set_cons_succ]
      refine wpAnyH_done (by kernel_rfl) ?_ _
      have hE9 := hH.2.2.2.2
      obtain ⟨k0, k1, k2, k3, kf⟩ : w9.cell? ⟨w.heap.size + 1, 0, none⟩ = some (.slice none 0 0) ∧ w9.cell? ⟨w.heap.size + 1, 1, none⟩ = some (.slice none 0 0) ∧ w9.cell? ⟨w.heap.size + 1, 2, none⟩ = some (.int .i64 0) ∧ w9.cell? ⟨w.heap.size + 1, 3, none⟩ = some (.int .i64 0) ∧ ∀ j, w9.frozen? ⟨w.heap.size + 1, j, none⟩ = false :=
        ⟨Ext.keep hE9 hp0, Ext.keep hE9 hp1, Ext.keep hE9 hp2, Ext.keep hE9 hp3, fun j => (Below.frozen (p := ⟨w.heap.size + 1, j, none⟩) hE9 (by have := World.block_lt_of_cell? w1 _ hp0; exact this)).trans (hpf j)⟩
      have m0 := hH.1
      have m1' := hH.2.2.1
      have m2' := Ext.keep hE9 hq0
      have hEw9 : Ext w w9 := Ext.trans hE1 hE9
      clear hH
      obtain ⟨v, hv⟩ : ∃ v, v = (subT s.ar r.r a).flat := ⟨_, rfl⟩
      have HSUB := Lib.hid (RI.sub HR2.out HDR.out)
      have hvl : a + v.length ≤ m2 := by
        have h1 := congrArg List.length HDR.out
        rw [List.length_drop, List.length_append, HR2.out.len, ← hv] at h1
        omega
      obtain ⟨f, hf⟩ : ∃ f : Nat, f = a + v.length := ⟨_, rfl⟩
      have hff : f - a = v.length := by omega
      have hfi : (a : Int) ≤ (f : Int) := by omega
      have hfd : (f : Int) ≤ (c2 : Int) := by have := HC2.out; omega
      have hca : ¬ c2 = a := by have := HC2.out; omega
      have HFN := Lib.hid (show f = a + (subT s.ar r.r a).flat.length by rw [hf, hv])
      have HFF := Lib.hid hff
      have HV := Lib.hid hv
      have HSV := Lib.hid (show RI w (some ⟨b2, o2 + a, none⟩) (f - a) v by rw [HFF.out, HV.out]; exact HSUB.out)
      clear hf hv hff
      obtain ⟨wm, rfl⟩ : ∃ wm : World, w9 = wm := ⟨_, rfl⟩
      have hEm := hE9
      clear hE9
      go_wp2_with fail
      refine wp_region_held_drew (S := (fun w' => w'.cell? ⟨w.heap.size + 1 + 1, 1, none⟩ = some (.slice (some ⟨b2, o2, none⟩) m2 c2) ∧ w'.cell? ⟨w.heap.size, 0, none⟩ = some (.slice A n c) ∧ Ext w9 w')) (by kernel_rfl) ?_ (fun hH => ?_)
      · exact ⟨m1', m0, (Ext.refl w9).drew⟩
      refine wpAnyH_take_dst (i := 0) (v := .pointer (some ⟨w.heap.size + 1 + 1, 1, none⟩)) (d := some 33) rfl rfl (by kernel_rfl) (by kernel_rfl) (by kernel_rfl) (fun _ _ _ h => h) (Or.inl ⟨by rfl, ?_⟩) hH ?_
      · (intro w hSw; (try dsimp only at hSw); go_split_ands; go_simp; try with_reducible rfl)
      try simp only [Act.put, List.setIfInBounds_toArray, List.set_cons_zero, List.set_cons_succ]
      refine wpAnyH_take_dst (i := 1) (v := .slice (some ⟨b2, o2, none⟩) m2 c2) (d := some 34) rfl rfl (by kernel_rfl) (by kernel_rfl) (by kernel_rfl) (fun _ _ _ h => h) (Or.inl ⟨by rfl, ?_⟩) hH ?_
      · (intro w hSw; (try dsimp only at hSw); go_split_ands; go_simp; try with_reducible rfl)
      try simp only [Act.put, List.setIfInBounds_toArray, List.set_cons_zero, List.set_cons_succ]
      refine wpAnyH_take_dst (i := 2) (v := .int .i64 (a : Int)) (d := some 35) rfl rfl (by kernel_rfl) (by kernel_rfl) (by kernel_rfl) (fun _ _ _ h => h) (Or.inl ⟨by rfl, ?_⟩) hH ?_
      · (intro w hSw; (try dsimp only at hSw); go_split_ands; go_simp; try with_reducible rfl)
      try simp only [Act.put, List.setIfInBounds_toArray, List.set_cons_zero, List.set_cons_succ]
      refine wpAnyH_take_dst (i := 3) (v := .pointer (some ⟨w.heap.size, 0, none⟩)) (d := some 36) rfl rfl (by kernel_rfl) (by kernel_rfl) (by kernel_rfl) (fun _ _ _ h => h) (Or.inl ⟨by rfl, ?_⟩) hH ?_
      · (intro w hSw; (try dsimp only at hSw); go_split_ands; go_simp; try with_reducible rfl)
      try simp only [Act.put, List.setIfInBounds_toArray, List.set_cons_zero, List.set_cons_succ]
      refine wpAnyH_take_dst (i := 4) (v := .agg #[.slice A n c]) (d := some 37) rfl rfl (by kernel_rfl) (by kernel_rfl) (by kernel_rfl) (fun _ _ _ h => h) (Or.inl ⟨by rfl, ?_⟩) hH ?_
      · (intro w hSw; (try dsimp only at hSw); go_split_ands; go_simp; try with_reducible rfl)
      try simp only [Act.put, List.setIfInBounds_toArray, List.set_cons_zero, List.set_cons_succ]
      refine wpAnyH_take_dst (i := 5) (v := .pointer (some ⟨w.heap.size + 1 + 1, 1, none⟩)) (d := some 38) rfl rfl (by kernel_rfl) (by kernel_rfl) (by kernel_rfl) (fun _ _ _ h => h) (Or.inl ⟨by rfl, ?_⟩) hH ?_
      · (intro w hSw; (try dsimp only at hSw); go_split_ands; go_simp; try with_reducible rfl)
      try simp only [Act.put, List.setIfInBounds_toArray, List.set_cons_zero, List.set_cons_succ]
      refine wpAnyH_take_dst (i := 6) (v := .slice (some ⟨b2, o2, none⟩) m2 c2) (d := some 39) rfl rfl (by kernel_rfl) (by kernel_rfl) (by kernel_rfl) (fun _ _ _ h => h) (Or.inl ⟨by rfl, ?_⟩) hH ?_
      · (intro w hSw; (try dsimp only at hSw); go_split_ands; go_simp; try with_reducible rfl)
      try simp only [Act.put, List.setIfInBounds_toArray, List.set_cons_zero, List.set_cons_succ]
      refine wpAnyH_take_dst (i := 7) (v := .int .i64 (a : Int)) (d := some 40) rfl rfl (by kernel_rfl) (by kernel_rfl) (by kernel_rfl) (fun _ _ _ h => h) (Or.inl ⟨by rfl, ?_⟩) hH ?_
      · (intro w hSw; (try dsimp only at hSw); go_split_ands; go_simp; try with_reducible rfl)
      try simp only [Act.put, List.setIfInBounds_toArray, List.set_cons_zero, List.set_cons_succ]
      refine wpAnyH_ready (rs := [8]) (by kernel_rfl) (by simp) ?_
      refine AllReadyH.cons rfl (fun K hK => ?_) AllReadyH.nil
      rw [if_pos (by rfl)]
      go_wp2_with (go_at_call 80; (with_reducible refine ((c_l13End' (u := subT s.ar r.r a) (p := a) HFN.out (RdSig.mk (RI.ext HA.out (Ext.trans hEw9 hH.2.2))) (RdI.mk (RI.ext HR2.out (Ext.trans hEw9 hH.2.2))) HSG.out HOK.out HDR.out)).mono ?_); rintro e w2 ⟨rfl, hE9⟩)
      refine hK.out _ _ ⟨Ext.keep hE9 hH.1, Ext.keep hE9 hH.2.1, Ext.trans hH.2.2 hE9⟩ (fun hH9 => ?_)
      clear hK hH; have hH := hH9; clear hH9
      try simp only [Act.put, List.setIfInBounds_toArray, List.set_cons_zero, List.set_cons_succ]
      refine wpAnyH_take_dst (i := 9) (v := .slice (some ⟨b2, o2 + a, none⟩) (f - a) (c2 - a)) (d := some 42) rfl rfl (by kernel_rfl) (by kernel_rfl) (by kernel_rfl) (fun _ _ _ h => h) (Or.inl ⟨by rfl, ?_⟩) hH ?_
      · (intro w hSw; (try dsimp only at hSw); go_split_ands; go_simp; try with_reducible rfl)
      try simp only [Act.put, List.setIfInBounds_toArray, List.set_cons_zero, List.set_cons_succ]
      refine wpAnyH_ready (rs := [10]) (by kernel_rfl) (by simp) ?_
      refine AllReadyH.cons rfl (fun K hK => ?_) AllReadyH.nil
      rw [if_pos (by rfl)]
      go_wp2_with (go_at_call 79; (with_reducible refine ((c_l1Copy (RI.ext HSV.out (Ext.trans hEw9 hH.2.2)))).mono ?_); rintro e w3 ⟨A5, n5, c5, rfl, hO5, hE9⟩)
      refine hK.out _ _ ⟨Ext.keep hE9 hH.1, Ext.keep hE9 hH.2.1, Ext.trans hH.2.2 hE9⟩ (fun hH9 => ?_)
      clear hK hH; have hH := hH9; clear hH9
      try simp only [Act.put, List.setIfInBounds_toArray, List.set_cons_zero, List.set_cons_succ]
      refine wpAnyH_take_dst (i := 11) (v := .slice A5 n5 c5) (d := some 9) rfl rfl (by kernel_rfl) (by kernel_rfl) (by kernel_rfl) (fun _ _ _ h => h) (Or.inl ⟨by rfl, ?_⟩) hH ?_
      · (intro w hSw; (try dsimp only at hSw); go_split_ands; go_simp; try with_reducible rfl)
      try simp only [Act.put, List.setIfInBounds_toArray, List.set_cons_zero, List.set_cons_succ]
      refine wpAnyH_done (by kernel_rfl) ?_ _
      have hE3 := hH.2.2
      have HR5 := Lib.hid hO5.ri
      have hbd5 := hO5.bd
      have hs29 : w9.heap.size ≤ w2.heap.size := (show Ext w9.drew w2 by assumption).size
      have j0 := Ext.keep hE3 m0
      have j1 := Ext.keep hE3 m2'
      have hEw3 := Ext.trans hEw9 hE3
      have HO5 := Lib.hid hO5
      clear hO5
      go_wp2_with fail
      (with_reducible refine (c_l17Part (u := v) (RdSig.mk (RI.ext HA.out hEw3)) (RdIc.mk HC1.out (RI.ext HR1.out hEw3)) (RdI.mk HR5.out) HTL.out).mono ?_)
      rw [HV.out]
      cases hha : has s.ar r.l (subT s.ar r.r a).flat with
      | true =>
        have HR := Lib.hid (show depOf s r k a x = none by unfold depOf; rw [if_neg (by omega), if_neg (by rw [hdf]; simp), if_pos hha])
        rintro e4 w4 ⟨rfl, hE4⟩
        have hE94 := Ext.trans hE3 hE4
        obtain ⟨k0, k1, k2, k3, kf⟩ : w4.cell? ⟨w.heap.size + 1, 0, none⟩ = some (.slice none 0 0) ∧ w4.cell? ⟨w.heap.size + 1, 1, none⟩ = some (.slice none 0 0) ∧ w4.cell? ⟨w.heap.size + 1, 2, none⟩ = some (.int .i64 0) ∧ w4.cell? ⟨w.heap.size + 1, 3, none⟩ = some (.int .i64 0) ∧ ∀ j, w4.frozen? ⟨w.heap.size + 1, j, none⟩ = false :=
          ⟨Ext.keep hE94 k0, Ext.keep hE94 k1, Ext.keep hE94 k2, Ext.keep hE94 k3, fun j => (Below.frozen (p := ⟨w.heap.size + 1, j, none⟩) hE94 (by have := World.block_lt_of_cell? w9 _ k0; exact this)).trans (kf j)⟩
        have hEw4 := Ext.trans hEw3 hE4
        go_wp2
        refine bodyPost_ret (v := .tuple #[.agg #[.slice none 0 0, .slice none 0 0, .int .i64 0, .int .i64 0], .bool false]) (by simp [results, Try.results50, go_sem, k0, k1, k2, k3, kf]) rfl ?_
        rw [HR.out]
        exact ⟨none, 0, 0, none, 0, 0, 0, 0, rfl, (fun q e => by cases e), by exact extX⟩
      | false =>
        have HR := Lib.hid (show depOf s r k a x = some ⟨r.l, (subT s.ar r.r a).flat, k, a⟩ by unfold depOf; rw [if_neg (by omega), if_neg (by rw [hdf]; simp), if_neg (by rw [hha]; simp)])
        rintro e4 w4 ⟨rfl, hE4⟩
        have i1 := Ext.keep hE4 j1
        have hEw4 := Ext.trans hEw3 hE4
        go_wp2_with fail
        (with_reducible refine (c_l1Copy (RI.ext HR1.out hEw4)).mono ?_)
        rintro e5 w5 ⟨A6, n6, c6, rfl, hO6, hE5⟩
        have HR6 := Lib.hid hO6.ri
        have hbd6 := hO6.bd
        have hEw5 := Ext.trans hEw4 hE5
        have HO6 := Lib.hid hO6
        clear hO6
        have HR7 := Lib.hid (RI.ext HR5.out (Ext.trans hE4 hE5))
        have hE96 := Ext.trans hE3 (Ext.trans hE4 hE5)
        obtain ⟨k0, k1, k2, k3, kf⟩ : w5.cell? ⟨w.heap.size + 1, 0, none⟩ = some (.slice none 0 0) ∧ w5.cell? ⟨w.heap.size + 1, 1, none⟩ = some (.slice none 0 0) ∧ w5.cell? ⟨w.heap.size + 1, 2, none⟩ = some (.int .i64 0) ∧ w5.cell? ⟨w.heap.size + 1, 3, none⟩ = some (.int .i64 0) ∧ ∀ j, w5.frozen? ⟨w.heap.size + 1, j, none⟩ = false :=
          ⟨Ext.keep hE96 k0, Ext.keep hE96 k1, Ext.keep hE96 k2, Ext.keep hE96 k3, fun j => (Below.frozen (p := ⟨w.heap.size + 1, j, none⟩) hE96 (by have := World.block_lt_of_cell? w9 _ k0; exact this)).trans (kf j)⟩
        have hlt9 : w.heap.size + 1 < w9.heap.size := by
          have h1 := World.block_lt_of_cell? w1 _ hp0
          have h2 := hEm.size
          have h3 : w.heap.size + 1 < w1.heap.size := h1
          omega
        have hs49 : w9.heap.size ≤ w4.heap.size := (Ext.trans hE3 hE4).size
        have hs59 : w4.heap.size ≤ w5.heap.size := hE5.size
        go_wp2_with fail
        refine bodyPost_ret (v := .tuple #[.agg #[.slice A6 n6 c6, .slice A5 n5 c5, .int .i64 (k : Int), .int .i64 (a : Int)], .bool true]) (by simp [results, Try.results50, go_sem, k0, k1, k2, k3, kf]) rfl ?_
        rw [HR.out]
        refine ⟨A6, n6, c6, A5, n5, c5, _, _, rfl, fun q e => ?_, by exact extX⟩
        cases e
        refine ⟨rfl, rfl, ?_, ?_, fun b o s b' o' s' e1 e2 => by have := (hbd6 b o s e1).1; have := (hbd5 b' o' s' e2).2; have := hE4.size; omega⟩
        · exact OwI.set4 (HO6.out.lower (sz_of hEw4)) (fun b o s e => by have := (hbd6 b o s e).1; omega)
        · rw [← HV.out]; exact OwI.set4 ((HO5.out.ext (Ext.trans hE4 hE5)).lower (by have := sz_of hEw9; omega)) (fun b o s e => by have := (hbd5 b o s e).1; omega)

/-! The pairs of a system: of both. (printed by genPL.py) -/
/-- The pairs at the first places of a rule. -/
noncomputable def prR (s : Sy) (r : Ru) (k : Nat) : Nat → List DepP
  | 0 => []
  | a + 1 => prR s r k a ++ (match r.r[a]? with | some x => (depOf s r k a x).toList | none => [])
/-- The pairs of the first rules. -/
noncomputable def prS (s : Sy) : Nat → List DepP
  | 0 => []
  | k + 1 => prS s k ++ (match s.rs[k]? with | some r => prR s r k r.r.length | none => [])
noncomputable def prAll (s : Sy) : List DepP := prS s s.rs.length
noncomputable def prV (s : Sy) : List DepP := if sysOk s = true then (if 64 < (prAll s).length then [] else prAll s) else []
noncomputable def prB (s : Sy) : Bool := sysOk s && decide ((prAll s).length ≤ 64)
theorem prR_none {s : Sy} {r : Ru} {k a : Nat} {x : Int} (hx : r.r[a]? = some x) (h : depOf s r k a x = none) : prR s r k (a + 1) = prR s r k a := by
  show prR s r k a ++ _ = _; rw [hx]; simp [h]
theorem prR_some {s : Sy} {r : Ru} {k a : Nat} {x : Int} {q : DepP} (hx : r.r[a]? = some x) (h : depOf s r k a x = some q) : prR s r k (a + 1) = prR s r k a ++ [q] := by
  show prR s r k a ++ _ = _; rw [hx]; simp [h]
theorem prS_succ {s : Sy} {r : Ru} {k : Nat} (hr : s.rs[k]? = some r) : prS s (k + 1) = prS s k ++ prR s r k r.r.length := by
  show prS s k ++ _ = _; rw [hr]
theorem prR_le (s : Sy) (r : Ru) (k : Nat) : ∀ a, (prR s r k a).length ≤ a
  | 0 => by show ([] : List DepP).length ≤ 0; simp
  | a + 1 => by
    have h1 := prR_le s r k a
    show (prR s r k a ++ _).length ≤ a + 1
    rw [List.length_append]
    cases hx : r.r[a]? with
    | none => simp; omega
    | some x => cases hd : depOf s r k a x <;> simp [hd] <;> omega
theorem prS_le {s : Sy} (hs : SysP s) : ∀ k, (prS s k).length ≤ k * 60
  | 0 => by show ([] : List DepP).length ≤ _; simp
  | k + 1 => by
    have h1 := prS_le hs k
    show (prS s k ++ _).length ≤ (k + 1) * 60
    rw [List.length_append]
    cases hr : s.rs[k]? with
    | none => simp; omega
    | some r =>
      have h2 := prR_le s r k r.r.length
      have h3 := (hs.2.2 k r hr).2.1.2.1.2
      simp; omega
theorem dep_info : (Try.prog.info? 56).map (fun i => (i.zero, i.size, i.bytes)) = some (some (.agg #[.slice none 0 0, .slice none 0 0, .int .i64 0, .int .i64 0]), 4, 64) := by kernel_rfl
theorem four_cells' {w : World} {H : Nat} (hH : w.heap.size = H) (x y z v : Value) (t : TypeId) : ∀ (j : Nat) (u : Value), [x, y, z, v][j]? = some u → (w.alloc (.cells #[x, y, z, v] t)).cell? ((⟨H, 0, none⟩ : Addr).add j) = some u := by
  subst hH
  intro j u hj
  match j, hj with
  | 0, hj => simp at hj; subst hj; simp [Addr.add, go_sem]
  | 1, hj => simp at hj; subst hj; simp [Addr.add, go_sem]
  | 2, hj => simp at hj; subst hj; simp [Addr.add, go_sem]
  | 3, hj => simp at hj; subst hj; simp [Addr.add, go_sem]
theorem four_one (A : Option Addr) (n c : Nat) (B : Option Addr) (m d : Nat) (k a : Int) : ∀ u ∈ [Value.slice A n c, Value.slice B m d, Value.int .i64 k, Value.int .i64 a], u.oneCell' = true := by
  intro u hu
  simp at hu
  rcases hu with rfl | rfl | rfl | rfl <;> rfl
theorem own_uniq {w : World} {B n size : Nat} {e : TypeId} {v : Value} {vs us : List Value} (h : w.ownsRow B e size v n vs) (k : w.ownsRow B e size v n us) : vs = us := by
  rcases h.2 with ⟨h1, h2⟩ | ⟨g, cap, cur, h1, _, hh, _, _, _, ht⟩
  · have a := h.1; have b := k.1
    subst h2
    rw [Nat.zero_mul] at a b
    rw [List.length_eq_zero_iff.1 a, List.length_eq_zero_iff.1 b]
  · rcases k.2 with ⟨k1, k2⟩ | ⟨g', cap', cur', k1, _, hh', _, _, _, ht'⟩
    · rw [h1] at k1; cases k1
    · rw [h1] at k1; cases k1
      rw [hh] at hh'; cases hh'
      rw [← ht, ← ht']
theorem own_cap {w : World} {B n size c : Nat} {e : TypeId} {A : Option Addr} {vs : List Value} (h : w.ownsRow B e size (.slice A n c) n vs) : n ≤ c ∧ c ≤ 9223372036854775807 := by
  rcases h.2 with ⟨e, h2⟩ | ⟨g, cap, cur, e, _, _, h3, h4, _⟩
  · cases e; omega
  · cases e; exact ⟨h3, h4⟩
theorem OwE.cast {w : World} {B top n c : Nat} {A A' : Option Addr} {ps : List DepP} (h : OwE w B top A n c ps) (e : A = A') : OwE w B top A' n c ps := e ▸ h
def NewE (w : World) (ps : List DepP) (b : Bool) (e : Ending) (w' : World) : Prop := ∃ A n c, e = .returned (.tuple #[.slice A n c, .bool b]) ∧ OwE w' w.heap.size w'.heap.size A n c ps ∧ Ext w w'

theorem c_iSysOkB {v : Value} {s : Sy} {w : World} {b : Bool} (hb : sysOk s = b) (h0 : RdSyC w v s) :
    Calls Try.prog 55 #[v] w fun e w' => e = .returned (.bool b) ∧ Ext w w' :=
  (c_iSystemOk h0).mono fun _ _ ⟨he, hw⟩ => ⟨he.trans (ret_bool hb), hw⟩
theorem c_sSysOkB {v : Value} {s : Sy} {w : World} {b : Bool} (hb : sysOk s = b) (h0 : RdSyC w v s) :
    Calls Try.prog 49 #[v] w fun e w' => e = .returned (.bool b) ∧ Ext w w' :=
  (c_sSystemOk h0).mono fun _ _ ⟨he, hw⟩ => ⟨he.trans (ret_bool hb), hw⟩

set_option maxRecDepth 100000 in
set_option maxHeartbeats 4000000 in
theorem c_sPairsOf {v0 : Value} {s : Sy} {w : World} {ps : List DepP} {bb : Bool} (hps : prV s = ps) (hbb : prB s = bb) (h0 : RdSyC w v0 s) :
    Calls Try.prog 20 #[v0] w (NewE w ps bb) := by
  obtain ⟨A0, n0, c0, B0, m0, d0, rfl, ha, hb⟩ := h0
  have HA := Lib.hid ha
  have HB := Lib.hid hb
  have hm0 := hb.len
  clear ha hb
  obtain ⟨i1, hji, hjz, hjs, hjb⟩ := info_parts dep_info
  cases hs : sysOk s with
  | false =>
    have HP := Lib.hid (show ps = [] by rw [← hps]; unfold prV; rw [hs]; rfl)
    have HQ := Lib.hid (show bb = false by rw [← hbb]; unfold prB; rw [hs]; rfl)
    clear hps hbb
    go_enter Try.func20, Try.ntmps20
    go_wp2_with fail
    (with_reducible refine (c_sSysOkB hs (by (first | (first | (with_reducible exact RdI.mk (RI.ext (Hid.out (by with_reducible assumption)) (by exact extX))) | (with_reducible exact RdI.ext (by with_reducible assumption) (by exact extX))) | (with_reducible exact RdDp.mk (OwI.cap (Hid.out (by with_reducible assumption))) (OwI.cap (Hid.out (by with_reducible assumption))) (by (first | (with_reducible exact RI.ext (Hid.out (by with_reducible assumption)) (by exact extX)))) (by (first | (with_reducible exact RI.ext (Hid.out (by with_reducible assumption)) (by exact extX))))) | (with_reducible exact RdDp.ext (by with_reducible assumption) (by exact extX)) | (with_reducible exact RdDq.mk (by (first | (with_reducible exact RI.ext (Hid.out (by with_reducible assumption)) (by exact extX)))) (by (first | (with_reducible exact RI.ext (Hid.out (by with_reducible assumption)) (by exact extX))))) | (with_reducible exact RdDp.rd (RdDp.ext (by with_reducible assumption) (by exact extX))) | (with_reducible exact RdDq.ext (by with_reducible assumption) (by exact extX)) | (with_reducible exact RdSyK.mk (by (first | (with_reducible exact RI.ext (Hid.out (by with_reducible assumption)) (by exact extX)))) (RR.ext (Hid.out (by with_reducible assumption)) (by exact extX))) | (with_reducible exact RdSyK.ext (by with_reducible assumption) (by exact extX)) | (with_reducible exact RdSig.mk (by (first | (with_reducible exact RI.ext (Hid.out (by with_reducible assumption)) (by exact extX))))) | (with_reducible exact RdSig.ext (by with_reducible assumption) (by exact extX))))).mono ?_); rintro e w1 ⟨rfl, hE1⟩; have hz1 := sz_of hE1; (try simp only [World.size_alloc, World.size_setCell, World.size_drew] at hz1); obtain ⟨hc1, hf1⟩ := bcell hE1; (try have hq1_0 : w.heap.size < w1.heap.size := by omega); (try have hq1_1 : w.heap.size + 1 < w1.heap.size := by omega); (try have hq1_2 : w.heap.size + 1 + 1 < w1.heap.size := by omega); (try have hq1_3 : w.heap.size + 1 + 1 + 1 < w1.heap.size := by omega); (try have hq1_4 : w.heap.size + 1 + 1 + 1 + 1 < w1.heap.size := by omega); (try have hq1_5 : w.heap.size + 1 + 1 + 1 + 1 + 1 < w1.heap.size := by omega)
    go_wp2_with fail
    refine bodyPost_ret (v := .tuple #[.slice (some ⟨w.heap.size + 1, 0, none⟩) 0 0, .bool false]) (by simp [results, Try.results20, go_sem]) rfl ?_
    rw [HP.out, HQ.out]
    refine ⟨_, 0, 0, rfl, ?_, by exact extX⟩
    exact ((OwE.none0 (w := w.alloc (.cells #[.slice A0 n0 c0, .slice B0 m0 d0] 49)) (B := w.heap.size) (by simp [go_sem]) _).ext hE1).cast (by simp [go_sem])
  | true =>
    have hs' := sysOk_iff.1 hs
    have HS := Lib.hid hs'
    have HPS := Lib.hid (show (if 64 < (prAll s).length then [] else prAll s) = ps by rw [← hps]; unfold prV; rw [hs]; rfl)
    have HBB := Lib.hid (show decide ((prAll s).length ≤ 64) = bb by rw [← hbb]; unfold prB; rw [hs]; rfl)
    have hmle : m0 ≤ 12 := by have := hs'.2.1; omega
    have HM := Lib.hid hm0
    clear hps hbb hm0 hs'
    go_enter Try.func20, Try.ntmps20
    go_wp2_with fail
    (with_reducible refine (c_sSysOkB hs (by (first | (first | (with_reducible exact RdI.mk (RI.ext (Hid.out (by with_reducible assumption)) (by exact extX))) | (with_reducible exact RdI.ext (by with_reducible assumption) (by exact extX))) | (with_reducible exact RdDp.mk (OwI.cap (Hid.out (by with_reducible assumption))) (OwI.cap (Hid.out (by with_reducible assumption))) (by (first | (with_reducible exact RI.ext (Hid.out (by with_reducible assumption)) (by exact extX)))) (by (first | (with_reducible exact RI.ext (Hid.out (by with_reducible assumption)) (by exact extX))))) | (with_reducible exact RdDp.ext (by with_reducible assumption) (by exact extX)) | (with_reducible exact RdDq.mk (by (first | (with_reducible exact RI.ext (Hid.out (by with_reducible assumption)) (by exact extX)))) (by (first | (with_reducible exact RI.ext (Hid.out (by with_reducible assumption)) (by exact extX))))) | (with_reducible exact RdDp.rd (RdDp.ext (by with_reducible assumption) (by exact extX))) | (with_reducible exact RdDq.ext (by with_reducible assumption) (by exact extX)) | (with_reducible exact RdSyK.mk (by (first | (with_reducible exact RI.ext (Hid.out (by with_reducible assumption)) (by exact extX)))) (RR.ext (Hid.out (by with_reducible assumption)) (by exact extX))) | (with_reducible exact RdSyK.ext (by with_reducible assumption) (by exact extX)) | (with_reducible exact RdSig.mk (by (first | (with_reducible exact RI.ext (Hid.out (by with_reducible assumption)) (by exact extX))))) | (with_reducible exact RdSig.ext (by with_reducible assumption) (by exact extX))))).mono ?_); rintro e w1 ⟨rfl, hE1⟩; have hz1 := sz_of hE1; (try simp only [World.size_alloc, World.size_setCell, World.size_drew] at hz1); obtain ⟨hc1, hf1⟩ := bcell hE1; (try have hq1_0 : w.heap.size < w1.heap.size := by omega); (try have hq1_1 : w.heap.size + 1 < w1.heap.size := by omega); (try have hq1_2 : w.heap.size + 1 + 1 < w1.heap.size := by omega); (try have hq1_3 : w.heap.size + 1 + 1 + 1 < w1.heap.size := by omega); (try have hq1_4 : w.heap.size + 1 + 1 + 1 + 1 < w1.heap.size := by omega); (try have hq1_5 : w.heap.size + 1 + 1 + 1 + 1 + 1 < w1.heap.size := by omega)
    obtain ⟨wb, hwb⟩ : ∃ wb, wb = w.alloc (.cells #[.slice A0 n0 c0, .slice B0 m0 d0] 49) := ⟨_, rfl⟩
    have hb1 : wb.cell? ⟨w.heap.size, 1, none⟩ = some (.slice B0 m0 d0) := by rw [hwb]; simp [go_sem]
    have hb0 : wb.cell? ⟨w.heap.size, 0, none⟩ = some (.slice A0 n0 c0) := by rw [hwb]; simp [go_sem]
    have hbs : wb.heap.size = w.heap.size + 1 := by rw [hwb]; simp [go_sem]
    have hEb : Ext w wb := by rw [hwb]; exact extX
    have hE1b : Ext wb w1 := by rw [hwb]; exact Ext.trans ((Ext.refl _).alloc _) hE1
    have HO := Lib.hid (((OwE.none0 (w := wb) (B := w.heap.size + 1) (by omega) (w.heap.size + 2)).ext (by rw [hwb]; exact hE1)).cast (A' := some ⟨w.heap.size + 1, 0, none⟩) (by rw [hbs]))
    have hz1 := hE1b.size
    have hz1b : w.heap.size + 2 ≤ w1.heap.size := by have := hE1.size; simp [go_sem] at this; omega
    have hs1 := Ext.keep hE1b hb1
    have hs0 := Ext.keep hE1b hb0
    have HBS := Lib.hid hbs
    clear hwb hbs
    go_wp2_with fail
    go_loopw [4, 5] (fun ov iv wr => ∃ k : Nat, iv = .int .i64 k ∧ k ≤ m0 ∧ (∃ A n c, ov = .slice A n c ∧ n ≤ k * 60 ∧ Hid (OwE wr (w.heap.size + 1) wr.heap.size A n c (prS s k))) ∧ Ext wb wr) (fun _ iv _ => m0 - (intOf iv).toNat)
    case atStart => exact ⟨0, rfl, Nat.zero_le _, ⟨_, _, _, rfl, by omega, Lib.hid (HO.out.mono (by omega))⟩, hE1b⟩
    case round =>
      obtain ⟨k, rfl, hk, ⟨A, n, c, rfl, hn, hO⟩, hE⟩ := hrel
      obtain ⟨wu, rfl⟩ : ∃ wu : World, wu = wr := ⟨_, rfl⟩
      have hEw : Ext w wu := Ext.trans hEb hE
      have hr1 := Ext.keep hE hb1
      have hr0 := Ext.keep hE hb0
      by_cases hlt : k < m0
      · obtain ⟨b, o, r, A1, m1, c1, A2, m2, c2, rfl, hx', hd1, hd2, hr1', hr2, hcap1, hcap2⟩ := RR.at_ HB.out hlt
        have hrp := HS.out.2.2 k r hx'
        have hr60 : r.r.length ≤ 60 := hrp.2.1.2.1.2
        have hrl : r.r.length = m2 := hr2.len
        have HX := Lib.hid hx'
        have hki : (k : Int) < (m0 : Int) := by omega
        have hk0 : (0 : Int) ≤ (k : Int) := by omega
        clear hrp hx' hr1' hr2 hcap1 hcap2 hd1
        go_wp2_with fail
        go_loopw [4, 6] (fun ov iv wi => ∃ a : Nat, iv = .int .i64 a ∧ a ≤ m2 ∧ (∃ A n c, ov = .slice A n c ∧ n ≤ k * 60 + a ∧ Hid (OwE wi (w.heap.size + 1) wi.heap.size A n c (prS s k ++ prR s r k a))) ∧ Ext wb wi) (fun _ iv _ => m2 - (intOf iv).toNat)
        case atStart => exact ⟨0, rfl, Nat.zero_le _, ⟨_, _, _, rfl, by omega, Lib.hid (by show OwE _ _ _ _ _ _ (prS s k ++ []); rw [List.append_nil]; exact hO.out)⟩, hE⟩
        case round =>
          obtain ⟨a, rfl, hak, ⟨A3, n3, c3, rfl, hn3, hO3⟩, hE3⟩ := hrel
          have hEw3 : Ext w wr := Ext.trans hEb hE3
          have hi1 := Ext.keep hE3 hb1
          have hi0 := Ext.keep hE3 hb0
          have hid2 := Ext.keep hEw3 hd2
          have hbl : b < wr.heap.size := World.block_lt_of_cell? wr _ hid2
          by_cases hlt2 : a < m2
          · have hal : a < r.r.length := by omega
            obtain ⟨x, hx⟩ : ∃ x, r.r[a]? = some x := ⟨_, List.getElem?_eq_getElem hal⟩
            have hai : (a : Int) < (m2 : Int) := by omega
            have ha0 : (0 : Int) ≤ (a : Int) := by omega
            cases hdo : depOf s r k a x with
            | none =>
              have HP := Lib.hid (prR_none hx hdo)
              go_wp2_with fail
              (with_reducible refine (c_l17AtO (x := x) (RdSyK.mk (RI.ext HA.out hEw3) (RR.ext HB.out hEw3)) HS.out HX.out hx).mono ?_)
              rintro e5 w5 ⟨A5, n5, c5, B5, m5, d5, k5, a5, rfl, hq5, hE5⟩
              rw [hdo]
              clear hq5
              have HO5 := Lib.hid (((hO3.out.ext hE5).ext ((Ext.refl w5).alloc (.cells #[.slice A5 n5 c5, .slice B5 m5 d5, .int .i64 k5, .int .i64 a5] 56))).mono (top' := w5.heap.size + 1) (by have := hE5.size; omega))
              have hz5 := hE5.size
              go_wp2_with fail
              go_roundw
              case rel => exact ⟨a + 1, by go_num, by omega, ⟨_, _, _, rfl, by omega, Lib.hid (by rw [HP.out]; exact HO5.out.mono (by simp [go_sem]))⟩, Ext.trans hE3 (hE5.alloc _)⟩
              case measure => simp only [intOf]; omega
            | some q =>
              have HP := Lib.hid (prR_some hx hdo)
              go_wp2_with fail
              (with_reducible refine (c_l17AtO (x := x) (RdSyK.mk (RI.ext HA.out hEw3) (RR.ext HB.out hEw3)) HS.out HX.out hx).mono ?_)
              rintro e5 w5 ⟨A5, n5, c5, B5, m5, d5, k5, a5, rfl, hq5, hE5⟩
              rw [hdo] at hq5 ⊢
              obtain ⟨rfl, rfl, hO5, hO6, h56⟩ := hq5 q rfl
              obtain rfl : n5 = q.l.length := hO5.len.symm
              obtain rfl : m5 = q.r.length := hO6.len.symm
              have hz5 := hE5.size
              have hob := hO3.out.ob
              have HB5 := Lib.hid hO5.bd
              have HB6 := Lib.hid hO6.bd
              have H56 := Lib.hid h56
              have hwz := hEw3.size
              have hbz := hE3.size
              have hbz2 := HBS.out
              have HO5 := Lib.hid ((hO5.alloc (.cells #[.slice A5 q.l.length c5, .slice B5 q.r.length d5, .int .i64 q.rule, .int .i64 q.at_] 56)).lower (B' := w.heap.size + 1) (by omega))
              have HO6 := Lib.hid ((hO6.alloc (.cells #[.slice A5 q.l.length c5, .slice B5 q.r.length d5, .int .i64 q.rule, .int .i64 q.at_] 56)).lower (B' := w.heap.size + 1) (by omega))
              have hO4 := (hO3.out.ext hE5).ext ((Ext.refl w5).alloc (.cells #[.slice A5 q.l.length c5, .slice B5 q.r.length d5, .int .i64 q.rule, .int .i64 q.at_] 56))
              have HO4 := Lib.hid hO4
              obtain ⟨_, G9, C9, ho9, _⟩ := hO4.ext ((Ext.refl _).alloc (.cells #[.slice A5 q.l.length c5, .slice B5 q.r.length d5, .int .i64 q.rule, .int .i64 q.at_] 56))
              have HO9 := Lib.hid ho9
              clear hO5 hO6 h56 ho9 hO4
              go_wp2_with (at_builtin; go_loud (refine wpList_append_lies _ rfl (.tmp 40) (.tmp 42) 51 rfl (w.heap.size + 1) 56 i1 (.agg #[.slice none 0 0, .slice none 0 0, .int .i64 0, .int .i64 0]) 4 64 Try.underlying51 hji hjz hjs hjb rfl (by decide) _ n3 _ rfl HO9.out ⟨w5.heap.size + 1, 0, none⟩ 1 1 [.slice A5 q.l.length c5, .slice B5 q.r.length d5, .int .i64 q.rule, .int .i64 q.at_] rfl rfl (four_cells' (by simp [go_sem]) _ _ _ _ _) (four_one _ _ _ _ _ _ _ _) (by decide) (by unfold maxLen; omega) (by omega) (by go_size) _ rfl ?_))
              intro g cap wx hown hg hat hltg
              have HQ := Lib.hid (OwE.push (q := q) (top' := w5.heap.size) (A1 := A5) (A2 := B5) HO4.out (by omega) HO5.out HO6.out HB5.out HB6.out H56.out (by omega) (fun b hb => (hob b hb).2) (own_cap hown)
                (fun us hu => by have e := own_uniq (World.ownsRow.alloc hu _) HO9.out; subst e; exact hown) hg (hat.imp id (fun e => e.trans (by simp [go_sem]))) (by simp [go_sem]))
              have hE9 : Ext wb wx := Ext.grown ((Ext.trans hE3 (hE5.alloc _)).alloc _) hg (fun b hb => by have := (hob b hb).1; have := HBS.out; omega)
              have hzx := hg.size
              clear hown
              go_wp2
              go_roundw
              case rel => exact ⟨a + 1, by go_num, by omega, ⟨_, _, _, rfl, by omega, Lib.hid (by rw [HP.out, ← List.append_assoc]; exact HQ.out.mono (by simp [go_sem] at hzx; omega))⟩, hE9⟩
              case measure => simp only [intOf]; omega
          · obtain rfl : a = m2 := by omega
            have HN := Lib.hid (prS_succ HX.out)
            have hzz : ¬ ((a : Int) < (a : Int)) := by omega
            go_wp2_with fail
            go_roundw
            case rel => exact ⟨k + 1, by go_num, by omega, ⟨_, _, _, rfl, by omega, Lib.hid (by rw [HN.out, hrl]; exact hO3.out)⟩, hE3⟩
            case measure => simp only [intOf]; omega
      · obtain rfl : k = m0 := by omega
        have HL := Lib.hid (show prS s k = prAll s by unfold prAll; rw [HM.out])
        have hlen := hO.out.1.2.1
        rw [HL.out] at hlen
        have hzw := hEw.size
        have hzb := hE.size
        by_cases h64 : 64 < n
        · go_wp2_with fail
          refine bodyPost_ret (v := .tuple #[.slice (some ⟨wu.heap.size, 0, none⟩) 0 0, .bool false]) (by simp [results, Try.results20, go_sem]) rfl ?_
          rw [← HPS.out, ← HBB.out, hlen, if_pos h64]
          exact ⟨_, _, _, by rw [show decide (n ≤ 64) = false from by simp; omega], OwE.none0 hzw _, by exact extX⟩
        · go_wp2_with fail
          refine bodyPost_ret (v := .tuple #[.slice A n c, .bool true]) (by simp [results, Try.results20, go_sem]) rfl ?_
          rw [← HPS.out, ← HBB.out, hlen, if_neg h64]
          exact ⟨_, _, _, by rw [show decide (n ≤ 64) = true from by simp; omega], by rw [← HL.out]; exact hO.out.lower (Nat.le_succ _), hEw⟩

end Go.Proofs.Ytljbjabgdalabaa
