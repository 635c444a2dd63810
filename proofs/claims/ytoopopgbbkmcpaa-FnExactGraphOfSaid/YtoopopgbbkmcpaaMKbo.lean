/- Plain: weights of terms, and the order by them. -/
import Derived.Test.YtoopopgbbkmcpaaMTree
import Derived.Test.YtoopopgbbkmcpaaMOften
import Derived.Test.YtoopopgbbkmcpaaMWt
namespace Go.Proofs.Ytoopopgbbkmcpaa

def wt1 (W : Wt) (x : Int) : Int := if x < 0 then W.var else W.sym.getD x.toNat 0
def wtOf (W : Wt) (t : List Int) : Int := (t.map (wt1 W)).sum
theorem wt1_var {W : Wt} {x : Int} (h : x < 0) : wt1 W x = W.var := by unfold wt1; rw [if_pos h]
theorem wt1_sym {W : Wt} {x s : Int} (h : ¬ x < 0) (hs : W.sym[x.toNat]? = some s) : wt1 W x = s := by
  unfold wt1; rw [if_neg h, List.getD_eq_getElem?_getD, hs]; rfl
theorem wtOf_snoc {W : Wt} {t : List Int} {k : Nat} {x : Int} (h : t[k]? = some x) : wtOf W (t.take (k + 1)) = wtOf W (t.take k) + wt1 W x := by
  unfold wtOf; rw [take_snoc h, List.map_append, List.sum_append]; simp
noncomputable def weightOf (ar : List Int) (W : Wt) (t : List Int) : Int := if wtOk ar W = true ∧ termOk ar t = true then wtOf W t else -1

/-- A symbol of one argument without weight. -/
def WrAt (ar : List Int) (W : Wt) (x : Int) : Prop := 0 ≤ x ∧ ar[x.toNat]? = some 1 ∧ W.sym[x.toNat]? = some 0
def WrP (ar : List Int) (W : Wt) (v : Int) (t : List Int) : Prop :=
  (∀ (j : Nat) (x : Int), j + 1 < t.length → t[j]? = some x → WrAt ar W x) ∧ 1 < t.length ∧ t[t.length - 1]? = some v
noncomputable def wraps (ar : List Int) (W : Wt) (v : Int) (t : List Int) : Bool := @decide (WrP ar W v t) (Classical.propDecidable _)
theorem wraps_f {ar : List Int} {W : Wt} {v : Int} {t : List Int} (h : ¬ WrP ar W v t) : wraps ar W v t = false := by simp only [wraps, decide_eq_false_iff_not]; exact h
theorem wraps_t {ar : List Int} {W : Wt} {v : Int} {t : List Int} (h : WrP ar W v t) : wraps ar W v t = true := by simp only [wraps, decide_eq_true_eq]; exact h
theorem wraps_at {ar : List Int} {W : Wt} {v : Int} {t : List Int} {j : Nat} {x : Int} (hj : j + 1 < t.length) (hx : t[j]? = some x) (h : ¬ WrAt ar W x) : wraps ar W v t = false := wraps_f fun p => h (p.1 j x hj hx)

def rk1 (W : Wt) (x : Int) : Int := W.rank.getD x.toNat 0
theorem rk1_at {W : Wt} {x r : Int} (h : W.rank[x.toNat]? = some r) : rk1 W x = r := by unfold rk1; rw [List.getD_eq_getElem?_getD, h]; rfl
mutual
noncomputable def kbo (ar : List Int) (W : Wt) : Tm → Tm → Int
  | .node x as, .node y bs =>
    if oft (Tm.node x as).flat (Tm.node y bs).flat = false then 0
    else if wtOf W (Tm.node x as).flat < wtOf W (Tm.node y bs).flat then 1
    else if wtOf W (Tm.node y bs).flat < wtOf W (Tm.node x as).flat ∨ y < 0 then 0
    else if x < 0 then (if wraps ar W x (Tm.node y bs).flat = true then 2 else 0)
    else if rk1 W x < rk1 W y then 3
    else if x = y ∧ kboL ar W as bs = true then 4 else 0
noncomputable def kboL (ar : List Int) (W : Wt) : List Tm → List Tm → Bool
  | a :: as, b :: bs => if a.flat = b.flat then kboL ar W as bs else decide (0 < kbo ar W a b)
  | _, _ => false
end
theorem kbo_node (ar : List Int) (W : Wt) (x y : Int) (as bs : List Tm) : kbo ar W (.node x as) (.node y bs) =
    if oft (Tm.node x as).flat (Tm.node y bs).flat = false then 0
    else if wtOf W (Tm.node x as).flat < wtOf W (Tm.node y bs).flat then 1
    else if wtOf W (Tm.node y bs).flat < wtOf W (Tm.node x as).flat ∨ y < 0 then 0
    else if x < 0 then (if wraps ar W x (Tm.node y bs).flat = true then 2 else 0)
    else if rk1 W x < rk1 W y then 3
    else if x = y ∧ kboL ar W as bs = true then 4 else 0 := by rw [kbo]
theorem kboL_nil (ar : List Int) (W : Wt) (bs : List Tm) : kboL ar W [] bs = false := by rw [kboL]; intros; contradiction
theorem kboL_cons (ar : List Int) (W : Wt) (a b : Tm) (as bs : List Tm) : kboL ar W (a :: as) (b :: bs) = if a.flat = b.flat then kboL ar W as bs else decide (0 < kbo ar W a b) := by rw [kboL]
/-- So far the arguments are the same. -/
def SameTo (as bs : List Tm) (k : Nat) : Prop := ∀ j, j < k → ∀ a b, as[j]? = some a → bs[j]? = some b → a.flat = b.flat
theorem kboL_same {ar : List Int} {W : Wt} : ∀ {k : Nat} {as bs : List Tm}, as.length = bs.length → SameTo as bs k → k ≤ as.length → kboL ar W as bs = kboL ar W (as.drop k) (bs.drop k)
  | 0, as, bs, _, _, _ => by simp
  | k + 1, [], bs, _, _, hk => by simp at hk
  | k + 1, a :: as, [], hl, _, _ => by simp at hl
  | k + 1, a :: as, b :: bs, hl, h, hk => by
    rw [kboL_cons, if_pos (h 0 (by omega) a b rfl rfl), List.drop_succ_cons, List.drop_succ_cons]
    exact kboL_same (by simpa using hl) (fun j hj a' b' e1 e2 => h (j + 1) (by omega) a' b' (by simpa using e1) (by simpa using e2)) (by simpa using hk)
theorem kboL_end {ar : List Int} {W : Wt} {as bs : List Tm} (hl : as.length = bs.length) (h : SameTo as bs as.length) : kboL ar W as bs = false := by
  rw [kboL_same hl h (Nat.le_refl _), List.drop_length, kboL_nil]
theorem kboL_at {ar : List Int} {W : Wt} {as bs : List Tm} {k : Nat} {a b : Tm} (hl : as.length = bs.length) (h : SameTo as bs k) (ha : as[k]? = some a) (hb : bs[k]? = some b) (hne : ¬ a.flat = b.flat) : kboL ar W as bs = decide (0 < kbo ar W a b) := by
  obtain ⟨h1, rfl⟩ := List.getElem?_eq_some_iff.1 ha
  obtain ⟨h2, rfl⟩ := List.getElem?_eq_some_iff.1 hb
  rw [kboL_same hl h (by omega), List.drop_eq_getElem_cons h1, List.drop_eq_getElem_cons h2, kboL_cons, if_neg hne]
theorem SameTo.step {as bs : List Tm} {k : Nat} {a b : Tm} (h : SameTo as bs k) (ha : as[k]? = some a) (hb : bs[k]? = some b) (e : a.flat = b.flat) : SameTo as bs (k + 1) := by
  intro j hj a' b' e1 e2
  rcases Nat.lt_or_ge j k with h' | h'
  · exact h j h' a' b' e1 e2
  · obtain rfl : j = k := by omega
    rw [ha] at e1; rw [hb] at e2; cases e1; cases e2; exact e
/-- The answer of KboWhy. -/
noncomputable def kboAns (ar : List Int) (W : Wt) (s t : List Int) : Int := if wtOk ar W = true ∧ termOk ar s = true ∧ termOk ar t = true then kbo ar W (tmOf ar s) (tmOf ar t) else 0

end Go.Proofs.Ytoopopgbbkmcpaa
