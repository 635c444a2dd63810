/- Plain: a search over ranks, one after the other. -/
import Derived.Test.YtjmdfjinicbkeaaMNext
namespace Go.Proofs.Ytjmdfjinicbkeaa
set_option linter.unusedVariables false

/-- The value of a list, its numbers as digits. -/
def valR : List Int → Nat
  | [] => 0
  | x :: t => x.toNat * 8 ^ t.length + valR t
theorem valR_lt : ∀ {t : List Int}, (∀ x ∈ t, x < 8) → valR t < 8 ^ t.length
  | [], _ => by simp [valR]
  | x :: t, h => by
    have ih := valR_lt fun y hy => h y (List.mem_cons_of_mem _ hy)
    have hx : x.toNat ≤ 7 := by have := h x List.mem_cons_self; omega
    have h1 : x.toNat * 8 ^ t.length ≤ 7 * 8 ^ t.length := Nat.mul_le_mul_right _ hx
    show x.toNat * 8 ^ t.length + valR t < 8 ^ (t.length + 1)
    rw [Nat.pow_succ]
    omega
theorem valR_append : ∀ (s t : List Int), valR (s ++ t) = valR s * 8 ^ t.length + valR t
  | [], t => by simp [valR]
  | x :: s, t => by
    show x.toNat * 8 ^ (s ++ t).length + valR (s ++ t) = (x.toNat * 8 ^ s.length + valR s) * 8 ^ t.length + valR t
    rw [valR_append s t, List.length_append, Nat.pow_add, Nat.add_mul, Nat.mul_assoc]
    omega
theorem permOk_perm {xs ys : List Int} (h : permOk xs = true) (p : ys.Perm xs) : permOk ys = true := by
  obtain ⟨h1, h2, h3⟩ := permOk_iff.1 h
  have hl := p.length_eq
  exact permOk_iff.2 ⟨p.nodup_iff.2 h1, fun x hx => by rw [hl]; exact h2 x (p.mem_iff.1 hx), by omega⟩
/-- The next one is right, as long, and greater. -/
theorem nextV_up {xs : List Int} (hb : nextB xs = true) : permOk (nextV xs) = true ∧ (nextV xs).length = xs.length ∧ valR xs < valR (nextV xs) := by
  unfold nextB at hb
  rw [Bool.and_eq_true] at hb
  obtain ⟨hp, hu⟩ := hb
  obtain ⟨i, hi⟩ := Option.isSome_iff_exists.1 hu
  obtain ⟨k, a, b, hN⟩ := nextI hp hi
  rw [nextV_some hp hi hN]
  obtain ⟨pre, hpre⟩ : ∃ l, l = xs.take i := ⟨_, rfl⟩
  obtain ⟨T1, hT1⟩ : ∃ l, l = (xs.take k).drop (i + 1) := ⟨_, rfl⟩
  obtain ⟨T2, hT2⟩ : ∃ l, l = xs.drop (k + 1) := ⟨_, rfl⟩
  have hx := hN.nx.eq
  have hlt := hN.nx.lt
  rw [← hpre, ← hT1, ← hT2] at hx ⊢
  have hperm : (nextL pre a T1 b T2).Perm xs := by
    rw [hx]
    unfold nextL
    refine List.Perm.append_left pre ?_
    refine (List.Perm.cons b (List.reverse_perm _)).trans ?_
    refine ((List.perm_middle (l₁ := T1) (l₂ := T2) (a := a)).cons b).trans ?_
    refine (List.Perm.swap a b (T1 ++ T2)).trans ?_
    exact ((List.perm_middle (l₁ := T1) (l₂ := T2) (a := b)).symm.cons a)
  obtain ⟨h1, h2, h3⟩ := permOk_iff.1 hp
  refine ⟨permOk_perm hp hperm, hperm.length_eq, ?_⟩
  have ha : 0 ≤ a := (h2 a (by rw [hx]; simp)).1
  have hd : ∀ y ∈ T1 ++ b :: T2, y < 8 := fun y hy => by
    have := (h2 y (by rw [hx]; exact List.mem_append_right _ (List.mem_cons_of_mem _ hy))).2
    omega
  have hv := valR_lt hd
  have hlen : ((T1 ++ a :: T2).reverse).length = (T1 ++ b :: T2).length := by simp; omega
  rw [hx]
  unfold nextL
  rw [valR_append, valR_append]
  show _ + (a.toNat * 8 ^ (T1 ++ b :: T2).length + valR (T1 ++ b :: T2)) < _ + (b.toNat * 8 ^ ((T1 ++ a :: T2).reverse).length + valR _)
  rw [List.length_cons, List.length_cons, hlen]
  have hab : a.toNat + 1 ≤ b.toNat := by omega
  have h5 : (a.toNat + 1) * 8 ^ (T1 ++ b :: T2).length ≤ b.toNat * 8 ^ (T1 ++ b :: T2).length := Nat.mul_le_mul_right _ hab
  rw [Nat.add_mul, Nat.one_mul] at h5
  omega
/-- How many may still come. -/
def muR (xs : List Int) : Nat := 8 ^ xs.length - valR xs
theorem muR_next {xs : List Int} (hb : nextB xs = true) : muR (nextV xs) < muR xs := by
  obtain ⟨h1, h2, h3⟩ := nextV_up hb
  obtain ⟨_, k2, k3⟩ := permOk_iff.1 h1
  have h4 := valR_lt (t := nextV xs) fun x hx => by have := (k2 x hx).2; omega
  unfold muR
  rw [h2] at h4 ⊢
  omega
/-- The first rank that passes, so many looked at. -/
noncomputable def gsR (T : List Int → Prop) : Nat → List Int → Option (List Int)
  | 0, _ => none
  | k + 1, xs => @ite _ (T xs) (Classical.propDecidable _) (some xs) (if nextB xs = true then gsR T k (nextV xs) else none)
def OnG (T : List Int → Prop) (o : Option (List Int)) (k : Nat) (xs : List Int) : Prop := permOk xs = true ∧ muR xs < k ∧ gsR T k xs = o
theorem OnG.start {T : List Int → Prop} {o : Option (List Int)} {xs : List Int} (h : permOk xs = true) (e : gsR T (muR xs + 1) xs = o) : OnG T o (muR xs + 1) xs := ⟨h, by omega, e⟩
theorem OnG.yes {T : List Int → Prop} {o : Option (List Int)} {k : Nat} {xs : List Int} (h : OnG T o k xs) (ht : T xs) : o = some xs := by
  obtain ⟨_, h2, h3⟩ := h
  obtain ⟨m, rfl⟩ : ∃ m, k = m + 1 := ⟨k - 1, by omega⟩
  rw [← h3, gsR, if_pos ht]
theorem OnG.next {T : List Int → Prop} {o : Option (List Int)} {k : Nat} {xs : List Int} (h : OnG T o k xs) (ht : ¬ T xs) (hb : nextB xs = true) : ∃ m, m < k ∧ OnG T o m (nextV xs) := by
  obtain ⟨_, h2, h3⟩ := h
  obtain ⟨m, rfl⟩ : ∃ m, k = m + 1 := ⟨k - 1, by omega⟩
  rw [gsR, if_neg ht, if_pos hb] at h3
  have := muR_next hb
  exact ⟨m, by omega, (nextV_up hb).1, by omega, h3⟩
theorem OnG.stop {T : List Int → Prop} {o : Option (List Int)} {k : Nat} {xs : List Int} (h : OnG T o k xs) (ht : ¬ T xs) (hb : nextB xs = false) : o = none := by
  obtain ⟨_, h2, h3⟩ := h
  obtain ⟨m, rfl⟩ : ∃ m, k = m + 1 := ⟨k - 1, by omega⟩
  rw [gsR, if_neg ht, if_neg (by rw [hb]; decide)] at h3
  exact h3.symm
theorem gsR_len {T : List Int → Prop} : ∀ {k : Nat} {xs ys : List Int}, permOk xs = true → gsR T k xs = some ys → permOk ys = true ∧ ys.length = xs.length ∧ T ys
  | 0, xs, ys, _, h => by rw [gsR] at h; cases h
  | k + 1, xs, ys, hp, h => by
    rw [gsR] at h
    split at h
    · cases h; exact ⟨hp, rfl, by assumption⟩
    · split at h
      · rename_i hb
        obtain ⟨h1, h2, _⟩ := nextV_up hb
        obtain ⟨k1, k2, k3⟩ := gsR_len h1 h
        exact ⟨k1, by omega, k3⟩
      · cases h
theorem upI_ok {n : Nat} (h : n ≤ 8) : permOk (upI 0 n) = true := by
  have hl : (upI 0 n).length = n := upI_len 0 n
  refine permOk_iff.2 ⟨?_, fun x hx => ?_, by omega⟩
  · exact (upI_inc 0 n).imp fun h => by omega
  · rw [hl]; have := (upI_mem).1 hx; omega

end Go.Proofs.Ytjmdfjinicbkeaa
