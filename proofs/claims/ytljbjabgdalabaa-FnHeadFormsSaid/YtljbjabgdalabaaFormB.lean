/- The form of a symbol applied to forms. -/
import Derived.Test.YtljbjabgdalabaaFormA
import Derived.Test.YtljbjabgdalabaaTermOk
-- rd: RdPl RdPs
namespace Go.Proofs.Ytljbjabgdalabaa
open Go.RowKit
set_option linter.unusedSimpArgs false
set_option linter.unusedVariables false

set_option maxHeartbeats 1000000 in
theorem c_slicesMax {v : Value} {t : List Int} {w : World} (h0 : RdI w v t) (hne : 1 ≤ t.length) :
    Calls Try.prog 99 #[v] w fun e w' => e = .returned (.int .i64 (maxL t)) ∧ w = w' := by
  obtain ⟨A, n, c, rfl, ha⟩ := h0
  have hn := ha.le
  have hl := ha.len
  have hn1 : 1 ≤ n := by omega
  obtain ⟨b, o, x, rfl, hx, hcx⟩ := RI.at_ ha (show 0 < n by omega)
  have HA := Lib.hid ha
  have HL := Lib.hid hl
  have HX := Lib.hid hx
  rw [Nat.add_zero] at hcx
  clear ha hl hx hne
  go_enter Try.func99, Try.ntmps99
  go_wp2
  have e0 : x = maxL (t.take 1) := by
    have := HX.out
    cases t with
    | nil => simp at this
    | cons y ys => simp at this; simp [maxL, this]
  have E0 := Lib.hid e0
  clear e0
  go_loop [3, 4] (fun a i => ∃ k : Nat, i = .int .i64 k ∧ 1 ≤ k ∧ k ≤ n ∧ ∃ y, a = .int .i64 y ∧ Hid (y = maxL (t.take k))) (fun _ i => n - (intOf i).toNat)
  case atStart => exact ⟨1, rfl, Nat.le_refl _, hn1, x, rfl, E0.out⟩
  case round =>
    obtain ⟨k, rfl, hk1, hk, y, rfl, hy⟩ := hrel
    by_cases hlt : k < n
    · obtain ⟨b', o', z, e', hz, hcz⟩ := RI.at_ HA.out hlt
      cases e'
      have e1 : maxL (t.take (k + 1)) = if y < z then z else y := by
        rw [take_snoc hz, maxL_snoc (by intro e; have := congrArg List.length e; rw [List.length_take, HL.out] at this; simp at this; omega), ← hy.out]
      have E1 := Lib.hid e1
      clear e1 hz
      go_wp2
      all_goals
        go_round
        case rel => exact ⟨k + 1, by go_num, by omega, by omega, _, rfl, by show _ = _; rw [E1.out]; try first | rw [if_pos (by omega)] | rw [if_neg (by omega)]⟩
        case measure => simp [intOf]; omega
    · go_wp2
      go_ret
      exact ⟨ret_int (by rw [hy.out, List.take_of_length_le (by rw [HL.out]; omega)]), rfl⟩
/-- A form and whether there is one. -/
def rp (o : Option Pl) : Pl := o.getD ⟨0, []⟩
def NewF (w : World) (o : Option Pl) (e : Ending) (w' : World) : Prop := ∃ A n c, e = .returned (.tuple #[.agg #[.int .i64 (rp o).c, .slice A n c], .bool o.isSome]) ∧ OwI w' w.heap.size A n c (rp o).cf ∧ Ext w w'
/-- How long the slice in a box is. -/
def lenAt (w : World) (g : Nat) : Nat := match w.cell? ⟨g, 1, none⟩ with | some (.slice _ n _) => n | _ => 0
theorem PB.lenAt {w1 wr : World} {x : Int} {A : Option Addr} {cA : Nat} {xs : List Int} (h : PB w1 wr x A cA xs) : lenAt wr w1.heap.size = xs.length := by
  unfold Go.Proofs.Ytljbjabgdalabaa.lenAt; rw [h.c1]
/-- A form under way: the first j numbers of the next one are added. -/
def AddTo (old : List Int) (bs : List Int) (m : Int) (j : Nat) (ys : List Int) : Prop := ys.length = max old.length bs.length ∧ ∀ i, nth ys i = nth old i + if i < j then m * nth bs i else 0
theorem AddTo.done {old bs ys : List Int} {m : Int} (h : AddTo old bs m bs.length ys) : ys = addL old bs m := by
  refine list_eq_getD (by rw [addL_len, h.1]) fun j hj => ?_
  have h1 := h.2 j
  unfold nth at h1
  rw [h1, addL_get]
  by_cases hb : j < bs.length
  · rw [if_pos hb]
  · rw [if_neg hb, List.getD_eq_getElem?_getD (l := bs), List.getElem?_eq_none (by omega)]; simp
/-- Noughts up to a length. -/
theorem AddTo.start {old bs : List Int} {m : Int} {t : Nat} (h : old.length + t = max old.length bs.length) : AddTo old bs m 0 (old ++ List.replicate t 0) := by
  refine ⟨by simp [h], fun i => ?_⟩
  unfold nth
  rw [if_neg (by omega), Int.add_zero]
  rcases Nat.lt_or_ge i old.length with hi | hi
  · rw [List.getD_eq_getElem?_getD, List.getElem?_append_left hi, ← List.getD_eq_getElem?_getD]
  · rw [List.getD_eq_getElem?_getD, List.getD_eq_getElem?_getD, List.getElem?_append_right hi, List.getElem?_eq_none (l := old) hi, List.getElem?_replicate]
    split <;> rfl
theorem AddTo.step {old bs ys : List Int} {m : Int} {j : Nat} {y b : Int} (h : AddTo old bs m j ys) (hy : ys[j]? = some y) (hb : bs[j]? = some b) : AddTo old bs m (j + 1) (ys.set j (y + m * b)) := by
  refine ⟨by rw [List.length_set]; exact h.1, fun i => ?_⟩
  have hjl : j < ys.length := (List.getElem?_eq_some_iff.1 hy).1
  by_cases hij : i = j
  · subst hij
    have h1 := h.2 i
    rw [if_neg (by omega), Int.add_zero] at h1
    rw [if_pos (by omega), ← h1]
    unfold nth
    rw [List.getD_eq_getElem?_getD, List.getElem?_set_self hjl, List.getD_eq_getElem?_getD, hy, List.getD_eq_getElem?_getD, hb]
    rfl
  · have h1 := h.2 i
    have e : nth (ys.set j (y + m * b)) i = nth ys i := by
      unfold nth
      rw [List.getD_eq_getElem?_getD, List.getElem?_set_ne (by omega), ← List.getD_eq_getElem?_getD]
    rw [e, h1]
    congr 1
    by_cases hi : i < j
    · rw [if_pos hi, if_pos (by omega)]
    · rw [if_neg hi, if_neg (by omega)]

end Go.Proofs.Ytljbjabgdalabaa
