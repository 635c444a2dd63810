/- Terms filled, by the reference. -/
import Derived.Test.YtlcneilmnbnedaaTermOk
import Derived.Test.YtlcneilmnbnedaaDicT
import Derived.Test.YtlcneilmnbnedaaMSub
import Derived.Test.YtlcneilmnbnedaaHeld
namespace Go.Proofs.Ytlcneilmnbnedaa
open Go.RowKit
set_option linter.unusedSimpArgs false
set_option linter.unusedVariables false

/-- The slice value reads as these lists; off block g. -/
def RSg (w : World) (A : Option Addr) (n : Nat) (xss : List (List Int)) : Prop :=
  (xss.length = n ∧ n ≤ 4194304) ∧ ∀ (j : Nat) (xs : List Int), xss[j]? = some xs → ∃ b o A' m' c', A = some ⟨b, o, none⟩ ∧ w.cell? ⟨b, o + j, none⟩ = some (.slice A' m' c') ∧ RI w A' m' xs
section
variable {w w' : World} {A : Option Addr} {n k : Nat} {xss : List (List Int)}
theorem RSg.ext (h : RSg w A n xss) (k : Ext w w') : RSg w' A n xss :=
  ⟨h.1, fun j xs hx => by
    obtain ⟨b, o, A', m', c', e, h1, h2⟩ := h.2 j xs hx
    exact ⟨b, o, A', m', c', e, Ext.keep k h1, h2.ext k⟩⟩
theorem RSg.at_ (h : RSg w A n xss) (hk : k < n) : ∃ b o A' m' c', A = some ⟨b, o, none⟩ ∧ w.cell? ⟨b, o + k, none⟩ = some (.slice A' m' c') ∧ RI w A' m' (xss.getD k []) := by
  have hl : k < xss.length := by rw [h.1.1]; exact hk
  have hx := List.getElem?_eq_getElem hl
  obtain ⟨b, o, A', m', c', e, h1, h2⟩ := h.2 k _ hx
  exact ⟨b, o, A', m', c', e, h1, by rw [List.getD_eq_getElem?_getD, hx]; exact h2⟩
end
/-- A list of terms for variables, by value. -/
def RdSub (w : World) (v : Value) (σ : List (List Int)) : Prop := ∃ A n c, v = .agg #[.slice A n c] ∧ RSg w A n σ
theorem RdSub.mk {w : World} {A : Option Addr} {n c : Nat} {σ : List (List Int)} (h : RSg w A n σ) : RdSub w (.agg #[.slice A n c]) σ := ⟨A, n, c, rfl, h⟩
theorem RdSub.ext {w w' : World} {v : Value} {σ : List (List Int)} (h : RdSub w v σ) (k : Ext w w') : RdSub w' v σ := by
  obtain ⟨A, n, c, e, h1⟩ := h; exact ⟨A, n, c, e, h1.ext k⟩
theorem gives_len {ar : List Int} {σ : List (List Int)} (h : SubP ar σ) (x : Int) : (gives σ x).length ≤ 60 := by
  rcases h.at_ (-1 - x).toNat with h1 | h1
  · rw [gives_no h1]; simp
  · rw [gives_yes rfl (fun e => by rw [e] at h1; exact absurd h1.2.1.1 (by simp))]; exact h1.2.1.2
def fillO (σ : List (List Int)) (t : List Int) : Option (List Int) := if (fill (gives σ) t).length ≤ 60 then some (fill (gives σ) t) else none
theorem fillO_some {σ : List (List Int)} {t : List Int} (h : (fill (gives σ) t).length ≤ 60) : fillO σ t = some (fill (gives σ) t) := if_pos h
theorem fillO_none {σ : List (List Int)} {t : List Int} (h : ¬ (fill (gives σ) t).length ≤ 60) : fillO σ t = none := if_neg h
theorem fill_take (h : Int → List Int) (t : List Int) (k : Nat) : (fill h (t.take k)).length ≤ (fill h t).length := by
  conv => rhs; rw [← List.take_append_drop k t]
  rw [fill_append, List.length_append]; omega
theorem fill_snoc {h : Int → List Int} {t : List Int} {k : Nat} {x : Int} (hx : t[k]? = some x) : fill h (t.take (k + 1)) = fill h (t.take k) ++ (if x < 0 then h x else [x]) := by
  rw [take_snoc hx, fill_append, fill_cons, fill_nil, List.append_nil]
theorem OwI.fresh1 {w : World} {B H : Nat} (x : Int) (hB : B ≤ w.heap.size) (hH : w.heap.size = H) : OwI (w.alloc (.cells #[.int .i64 x] 2)) B (some ⟨H, 0, none⟩) 1 1 [x] := by
  subst hH; exact (OwI.fresh (w := w) [x] (by simp)).lower hB
/-- A list that may fail, of the call's own. -/
def NewFo (w : World) (o : Option (List Int)) (e : Ending) (w' : World) : Prop := ∃ A n c, e = .returned (.tuple #[.slice A n c, .bool o.isSome]) ∧ OwI w' w.heap.size A n c (o.getD []) ∧ Ext w w'
set_option maxRecDepth 100000 in
set_option maxHeartbeats 2000000 in
theorem c_l2Gives {v : Value} {σ : List (List Int)} {i : Nat} {w : World} (h0 : RdSub w v σ) (hi : i ≤ 1000) :
    Calls Try.prog 97 #[v, .int .i64 (i : Int)] w (NewI w (gives σ (-1 - (i : Int)))) := by
  obtain ⟨A, n, c, rfl, ha⟩ := h0
  have hn := ha.1.2
  have hlen := ha.1.1
  have HA := Lib.hid ha
  have hw1 : IntKind.i64.wrap (-1 - (i : Int)) = -1 - (i : Int) := IntWalk.i64_in _ (by omega)
  have hix : (-1 - (-1 - (i : Int))).toNat = i := by omega
  clear ha
  by_cases hlt : i < n
  · obtain ⟨b, o, A1, m1, c1, rfl, hc1, hr1⟩ := RSg.at_ HA.out hlt
    have HR := Lib.hid hr1
    have hl := hr1.len
    have hlti : (i : Int) < (n : Int) := by omega
    have hi0 : (0 : Int) ≤ (i : Int) := by omega
    have hbl := World.block_lt_of_cell? w _ hc1
    clear hr1 hlen
    by_cases h0 : σ.getD i [] = []
    · have HG := Lib.hid (show gives σ (-1 - (i : Int)) = [-1 - (i : Int)] from gives_no (by rw [hix]; exact h0))
      rw [h0] at hl
      obtain rfl : m1 = 0 := by simpa using hl.symm
      clear hix
      go_enter Try.func97, Try.ntmps97
      go_wp2
      go_ret
      rw [HG.out]
      exact ⟨_, 1, 1, rfl, OwI.fresh1 _ (by go_size) (by go_size), by exact extX⟩
    · have HG := Lib.hid (show gives σ (-1 - (i : Int)) = σ.getD i [] from gives_yes (by rw [hix]) h0)
      have h1 : 0 < m1 := by
        rcases Nat.eq_zero_or_pos m1 with h2 | h2
        · exact absurd (List.length_eq_zero_iff.1 (by omega)) h0
        · exact h2
      have h1i : (m1 : Int) > 0 := by omega
      clear hix
      go_enter Try.func97, Try.ntmps97
      go_wp2_with fail
      (with_reducible refine (c_l1Copy (RI.ext HR.out (by exact extX))).mono ?_)
      rintro e w2 ⟨A2, n2, c2, rfl, hO2, hE2⟩
      have HO2 := Lib.hid hO2
      clear hO2
      go_wp2
      go_ret
      rw [HG.out]
      exact ⟨A2, n2, c2, rfl, HO2.out.lower (by go_size), by exact extX⟩
  · have h0 : σ.getD i [] = [] := by rw [List.getD_eq_getElem?_getD, List.getElem?_eq_none (by omega)]; rfl
    have HG := Lib.hid (show gives σ (-1 - (i : Int)) = [-1 - (i : Int)] from gives_no (by rw [hix]; exact h0))
    clear h0 hix hlen
    go_enter Try.func97, Try.ntmps97
    go_wp2
    go_ret
    rw [HG.out]
    exact ⟨_, 1, 1, rfl, OwI.fresh1 _ (by go_size) (by go_size), by exact extX⟩
theorem c_l2GivesX {v : Value} {σ : List (List Int)} {x : Int} {w : World} (h0 : RdSub w v σ) (hx : x < 0) (hx2 : -1000 ≤ x) :
    Calls Try.prog 97 #[v, .int .i64 (-1 - x)] w (NewI w (gives σ x)) := by
  obtain ⟨i, hi⟩ := Int.eq_ofNat_of_zero_le (show 0 ≤ -1 - x by omega)
  obtain rfl : x = -1 - (i : Int) := by omega
  rw [show -1 - (-1 - (i : Int)) = (i : Int) by omega]
  exact c_l2Gives h0 (by omega)

end Go.Proofs.Ytlcneilmnbnedaa
