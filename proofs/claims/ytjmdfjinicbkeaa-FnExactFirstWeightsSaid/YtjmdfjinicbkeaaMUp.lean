/- Plain: numbers counted up between two lists. -/
import Derived.Test.YtjmdfjinicbkeaaModel
namespace Go.Proofs.Ytjmdfjinicbkeaa

/-- The next list, the last place first; false behind the last one. -/
def up : List Int → List Int → List Int → List Int × Bool
  | x :: xs, l :: ls, h :: hs => match up xs ls hs with
    | (ys, true) => (x :: ys, true)
    | (ys, false) => if x < h then ((x + 1) :: ys, true) else (l :: ys, false)
  | _, _, _ => ([], false)
theorem up_cons_t {x l h : Int} {xs ls hs ys : List Int} (e : up xs ls hs = (ys, true)) : up (x :: xs) (l :: ls) (h :: hs) = (x :: ys, true) := by rw [up, e]
theorem up_cons_s {x l h : Int} {xs ls hs ys : List Int} (e : up xs ls hs = (ys, false)) (hx : x < h) : up (x :: xs) (l :: ls) (h :: hs) = ((x + 1) :: ys, true) := by rw [up, e]; simp [hx]
theorem up_cons_f {x l h : Int} {xs ls hs ys : List Int} (e : up xs ls hs = (ys, false)) (hx : ¬ x < h) : up (x :: xs) (l :: ls) (h :: hs) = (l :: ys, false) := by rw [up, e]; simp [hx]
/-- A place that may rise. -/
theorem up_at : ∀ {k : Nat} {xs ls hs : List Int} {x h : Int}, xs.length = ls.length → hs.length = ls.length → xs[k]? = some x → hs[k]? = some h → x < h → up (xs.drop (k + 1)) (ls.drop (k + 1)) (hs.drop (k + 1)) = (ls.drop (k + 1), false) → up xs ls hs = (xs.take k ++ (x + 1) :: ls.drop (k + 1), true)
  | 0, x0 :: xs, l :: ls, h0 :: hs, x, h, _, _, hx, hh, hlt, e => by
    simp at hx hh; subst hx hh
    simp at e
    rw [up_cons_s e hlt]; simp
  | k + 1, x0 :: xs, l :: ls, h0 :: hs, x, h, h1, h2, hx, hh, hlt, e => by
    simp at h1 h2 hx hh
    simp only [List.drop_succ_cons] at e
    rw [up_cons_t (up_at h1 h2 hx hh hlt e)]; simp
  | 0, [], _, _, _, _, _, _, hx, _, _, _ => by simp at hx
  | k + 1, [], _, _, _, _, _, _, hx, _, _, _ => by simp at hx
  | 0, _ :: _, [], _, _, _, h1, _, _, _, _, _ => by simp at h1
  | k + 1, _ :: _, [], _, _, _, h1, _, _, _, _, _ => by simp at h1
  | 0, _ :: _, _ :: _, [], _, _, _, h2, _, _, _, _ => by simp at h2
  | k + 1, _ :: _, _ :: _, [], _, _, _, h2, _, _, _, _ => by simp at h2
/-- A place that is at its end goes back. -/
theorem up_back {k : Nat} {xs ls hs : List Int} {x l h : Int} (hx : xs[k]? = some x) (hl : ls[k]? = some l) (hh : hs[k]? = some h) (hlt : ¬ x < h) (e : up (xs.drop (k + 1)) (ls.drop (k + 1)) (hs.drop (k + 1)) = (ls.drop (k + 1), false)) :
    up (xs.drop k) (ls.drop k) (hs.drop k) = (ls.drop k, false) := by
  obtain ⟨a1, b1⟩ := List.getElem?_eq_some_iff.1 hx
  obtain ⟨a2, b2⟩ := List.getElem?_eq_some_iff.1 hl
  obtain ⟨a3, b3⟩ := List.getElem?_eq_some_iff.1 hh
  rw [List.drop_eq_getElem_cons a1, List.drop_eq_getElem_cons a2, List.drop_eq_getElem_cons a3, b1, b2, b3, up_cons_f e hlt]
theorem up_len : ∀ {xs ls hs : List Int}, xs.length = ls.length → hs.length = ls.length → (up xs ls hs).1.length = ls.length
  | [], [], _, _, _ => by simp [up]
  | x :: xs, l :: ls, h :: hs, h1, h2 => by
    simp at h1 h2
    have ih := up_len h1 h2
    rcases hu : up xs ls hs with ⟨ys, b⟩
    rw [hu] at ih
    cases b with
    | true => rw [up_cons_t hu]; simpa using ih
    | false =>
      by_cases hx : x < h
      · rw [up_cons_s hu hx]; simpa using ih
      · rw [up_cons_f hu hx]; simpa using ih
  | [], _ :: _, _, h1, _ => by simp at h1
  | _ :: _, [], _, h1, _ => by simp at h1
  | _ :: _, _ :: _, [], _, h2 => by simp at h2
/-- Between two lists. -/
def Btw : List Int → List Int → List Int → Prop
  | x :: xs, l :: ls, h :: hs => (l ≤ x ∧ x ≤ h) ∧ Btw xs ls hs
  | [], [], [] => True
  | _, _, _ => False
theorem Btw.len : ∀ {xs ls hs : List Int}, Btw xs ls hs → xs.length = ls.length ∧ hs.length = ls.length
  | [], [], [], _ => ⟨rfl, rfl⟩
  | x :: xs, l :: ls, h :: hs, hb => by have := Btw.len hb.2; simp; omega
theorem Btw.at_ : ∀ {xs ls hs : List Int} {k : Nat} {x : Int}, Btw xs ls hs → xs[k]? = some x → ∃ l h, ls[k]? = some l ∧ hs[k]? = some h ∧ l ≤ x ∧ x ≤ h
  | x0 :: xs, l :: ls, h :: hs, 0, x, hb, hx => by simp at hx; subst hx; exact ⟨l, h, rfl, rfl, hb.1.1, hb.1.2⟩
  | x0 :: xs, l :: ls, h :: hs, k + 1, x, hb, hx => by
    obtain ⟨l', h', a, b, c⟩ := Btw.at_ hb.2 (by simpa using hx)
    exact ⟨l', h', by simpa using a, by simpa using b, c⟩
  | [], _, _, k, x, _, hx => by simp at hx
theorem Btw.of : ∀ {xs ls hs : List Int}, xs.length = ls.length → hs.length = ls.length → (∀ (k : Nat) (x l h : Int), xs[k]? = some x → ls[k]? = some l → hs[k]? = some h → l ≤ x ∧ x ≤ h) → Btw xs ls hs
  | [], [], [], _, _, _ => trivial
  | x :: xs, l :: ls, h :: hs, h1, h2, hb => ⟨hb 0 x l h rfl rfl rfl, Btw.of (by simpa using h1) (by simpa using h2) fun k x' l' h' a b c => hb (k + 1) x' l' h' (by simpa using a) (by simpa using b) (by simpa using c)⟩
  | [], _ :: _, _, h1, _, _ => by simp at h1
  | _ :: _, [], _, h1, _, _ => by simp at h1
  | [], [], _ :: _, _, h2, _ => by simp at h2
  | _ :: _, _ :: _, [], _, h2, _ => by simp at h2
/-- How many lists there are, and which one it is. -/
def cnt : List Int → List Int → Nat
  | l :: ls, h :: hs => (h - l + 1).toNat * cnt ls hs
  | _, _ => 1
def rkU : List Int → List Int → List Int → Nat
  | x :: xs, l :: ls, _ :: hs => (x - l).toNat * cnt ls hs + rkU xs ls hs
  | _, _, _ => 0
theorem rkU_lt : ∀ {xs ls hs : List Int}, Btw xs ls hs → rkU xs ls hs < cnt ls hs
  | [], [], [], _ => by simp [rkU, cnt]
  | x :: xs, l :: ls, h :: hs, hb => by
    have ih := rkU_lt hb.2
    have h1 : (h - l + 1).toNat = (h - x).toNat + (x - l).toNat + 1 := by have := hb.1; omega
    show (x - l).toNat * cnt ls hs + rkU xs ls hs < (h - l + 1).toNat * cnt ls hs
    rw [h1, Nat.add_mul, Nat.add_mul, Nat.one_mul]
    omega
/-- One list after the other. -/
theorem up_next : ∀ {xs ls hs ys : List Int} {b : Bool}, Btw xs ls hs → up xs ls hs = (ys, b) → Btw ys ls hs ∧ (b = true → rkU ys ls hs = rkU xs ls hs + 1) ∧ (b = false → ys = ls ∧ rkU xs ls hs + 1 = cnt ls hs ∧ rkU ys ls hs = 0)
  | [], [], [], ys, b, _, e => by
    simp [up] at e
    obtain ⟨rfl, rfl⟩ := e
    exact ⟨trivial, fun h => by simp at h, fun _ => ⟨rfl, rfl, rfl⟩⟩
  | x :: xs, l :: ls, h :: hs, ys, b, hb, e => by
    rcases hu : up xs ls hs with ⟨zs, c⟩
    obtain ⟨k1, k2, k3⟩ := up_next hb.2 hu
    cases c with
    | true =>
      rw [up_cons_t hu] at e
      cases e
      refine ⟨⟨hb.1, k1⟩, fun _ => ?_, fun h => by simp at h⟩
      have := k2 rfl
      show (x - l).toNat * cnt ls hs + rkU zs ls hs = (x - l).toNat * cnt ls hs + rkU xs ls hs + 1
      omega
    | false =>
      obtain ⟨m1, m2, m3⟩ := k3 rfl
      by_cases hx : x < h
      · rw [up_cons_s hu hx] at e
        cases e
        refine ⟨⟨by have := hb.1; omega, k1⟩, fun _ => ?_, fun h => by simp at h⟩
        show (x + 1 - l).toNat * cnt ls hs + rkU zs ls hs = (x - l).toNat * cnt ls hs + rkU xs ls hs + 1
        have h1 : (x + 1 - l).toNat = (x - l).toNat + 1 := by have := hb.1; omega
        rw [h1, Nat.add_mul, Nat.one_mul]
        omega
      · rw [up_cons_f hu hx] at e
        cases e
        have hb1 := hb.1
        refine ⟨⟨by omega, k1⟩, fun h => by simp at h, fun _ => ⟨by rw [m1], ?_, ?_⟩⟩
        · show (x - l).toNat * cnt ls hs + rkU xs ls hs + 1 = (h - l + 1).toNat * cnt ls hs
          have h1 : (h - l + 1).toNat = (x - l).toNat + 1 := by omega
          rw [h1, Nat.add_mul, Nat.one_mul]
          omega
        · show (l - l).toNat * cnt ls hs + rkU zs ls hs = 0
          rw [Int.sub_self, m3]; simp
/-- The least number of which something holds. -/
theorem least_ex {R : Nat → Prop} (h : ∃ k, R k) : ∃ k, R k ∧ ∀ j, j < k → ¬ R j := by
  obtain ⟨k, hk⟩ := h
  induction k using Nat.strongRecOn with
  | ind k ih =>
    by_cases hj : ∃ j, j < k ∧ R j
    · obtain ⟨j, h1, h2⟩ := hj; exact ih j h1 h2
    · exact ⟨k, hk, fun j h1 h2 => hj ⟨j, h1, h2⟩⟩
noncomputable def leastOf (R : Nat → Prop) : Nat := @Classical.epsilon Nat ⟨0⟩ fun k => R k ∧ ∀ j, j < k → ¬ R j
theorem leastOf_spec {R : Nat → Prop} (h : ∃ k, R k) : R (leastOf R) ∧ ∀ j, j < leastOf R → ¬ R j := Classical.epsilon_spec (p := fun k => R k ∧ ∀ j, j < k → ¬ R j) (least_ex h)
theorem leastOf_le {R : Nat → Prop} {k : Nat} (h : R k) : leastOf R ≤ k := by
  rcases Nat.lt_or_ge k (leastOf R) with h1 | h1
  · exact absurd h ((leastOf_spec ⟨k, h⟩).2 k h1)
  · exact h1
/-- The first list that passes, so many looked at. -/
noncomputable def srch (T : List Int → Prop) (ls hs : List Int) : Nat → List Int → Option (List Int)
  | 0, _ => none
  | k + 1, xs => @ite _ (T xs) (Classical.propDecidable _) (some xs) (match up xs ls hs with | (ys, true) => srch T ls hs k ys | (_, false) => none)
theorem srch_yes {T : List Int → Prop} {ls hs xs : List Int} {k : Nat} (h : T xs) : srch T ls hs (k + 1) xs = some xs := by rw [srch, if_pos h]
theorem srch_up {T : List Int → Prop} {ls hs xs ys : List Int} {k : Nat} (h : ¬ T xs) (e : up xs ls hs = (ys, true)) : srch T ls hs (k + 1) xs = srch T ls hs k ys := by rw [srch, if_neg h, e]
theorem srch_end {T : List Int → Prop} {ls hs xs ys : List Int} {k : Nat} (h : ¬ T xs) (e : up xs ls hs = (ys, false)) : srch T ls hs (k + 1) xs = none := by rw [srch, if_neg h, e]
/-- At a list on the way: what the search will say. -/
def OnWay (T : List Int → Prop) (ls hs : List Int) (o : Option (List Int)) (k : Nat) (xs : List Int) : Prop := Btw xs ls hs ∧ rkU xs ls hs + k = cnt ls hs ∧ srch T ls hs k xs = o
theorem OnWay.btw {T : List Int → Prop} {ls hs : List Int} {o : Option (List Int)} {k : Nat} {xs : List Int} (h : OnWay T ls hs o k xs) : Btw xs ls hs := h.1
theorem OnWay.start {T : List Int → Prop} {ls hs : List Int} {o : Option (List Int)} (h : Btw ls ls hs) (e : srch T ls hs (cnt ls hs - rkU ls ls hs) ls = o) : OnWay T ls hs o (cnt ls hs - rkU ls ls hs) ls := ⟨h, by have := rkU_lt h; omega, e⟩
theorem OnWay.yes {T : List Int → Prop} {ls hs xs : List Int} {o : Option (List Int)} {k : Nat} (h : OnWay T ls hs o k xs) (ht : T xs) : o = some xs := by
  obtain ⟨h1, h2, h3⟩ := h
  have := rkU_lt h1
  obtain ⟨m, rfl⟩ : ∃ m, k = m + 1 := ⟨k - 1, by omega⟩
  rw [← h3, srch_yes ht]
theorem OnWay.next {T : List Int → Prop} {ls hs xs ys : List Int} {o : Option (List Int)} {k : Nat} (h : OnWay T ls hs o k xs) (ht : ¬ T xs) (e : up xs ls hs = (ys, true)) : ∃ m, m < k ∧ OnWay T ls hs o m ys := by
  obtain ⟨h1, h2, h3⟩ := h
  have := rkU_lt h1
  obtain ⟨m, rfl⟩ : ∃ m, k = m + 1 := ⟨k - 1, by omega⟩
  obtain ⟨k1, k2, _⟩ := up_next h1 e
  have := k2 rfl
  exact ⟨m, by omega, k1, by omega, by rw [← h3, srch_up ht e]⟩
theorem OnWay.stop {T : List Int → Prop} {ls hs xs ys : List Int} {o : Option (List Int)} {k : Nat} (h : OnWay T ls hs o k xs) (ht : ¬ T xs) (e : up xs ls hs = (ys, false)) : o = none := by
  obtain ⟨h1, h2, h3⟩ := h
  have := rkU_lt h1
  obtain ⟨m, rfl⟩ : ∃ m, k = m + 1 := ⟨k - 1, by omega⟩
  rw [← h3, srch_end ht e]

end Go.Proofs.Ytjmdfjinicbkeaa
