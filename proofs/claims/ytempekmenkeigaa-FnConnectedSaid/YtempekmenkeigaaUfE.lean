/- Two pairs of a system: plainly, and in memory. -/
import Derived.Test.YtempekmenkeigaaMPairW
import Derived.Test.YtempekmenkeigaaMUf
import Derived.Test.YtempekmenkeigaaUsX
import Derived.Test.YtempekmenkeigaaPairL
import Derived.Test.YtempekmenkeigaaDicSy
-- rd: RdSyK RdDp RdDq
namespace Go.Proofs.Ytempekmenkeigaa
open Go.RowKit
set_option linter.unusedSimpArgs false
set_option linter.unusedVariables false

theorem mem_prR {s : Sy} {r : Ru} {k : Nat} {q : DepP} : ∀ {a : Nat}, q ∈ prR s r k a → ∃ (j : Nat) (x : Int), r.r[j]? = some x ∧ depOf s r k j x = some q
  | 0, h => by cases h
  | a + 1, h => by
    have h : q ∈ prR s r k a ++ (match r.r[a]? with | some x => (depOf s r k a x).toList | none => []) := h
    rcases List.mem_append.1 h with h | h
    · exact mem_prR h
    · cases hx : r.r[a]? with
      | none => rw [hx] at h; cases h
      | some x => rw [hx] at h; exact ⟨a, x, hx, by simpa using h⟩
theorem mem_prS {s : Sy} {q : DepP} : ∀ {n : Nat}, q ∈ prS s n → ∃ (k j : Nat) (r : Ru) (x : Int), s.rs[k]? = some r ∧ r.r[j]? = some x ∧ depOf s r k j x = some q
  | 0, h => by cases h
  | n + 1, h => by
    have h : q ∈ prS s n ++ (match s.rs[n]? with | some r => prR s r n r.r.length | none => []) := h
    rcases List.mem_append.1 h with h | h
    · exact mem_prS h
    · cases hr : s.rs[n]? with
      | none => rw [hr] at h; cases h
      | some r =>
        rw [hr] at h
        obtain ⟨j, x, h1, h2⟩ := mem_prR h
        exact ⟨n, j, r, x, hr, h1, h2⟩
theorem depOf_eq {s : Sy} {r : Ru} {k a : Nat} {x : Int} {q : DepP} (h : depOf s r k a x = some q) : 0 ≤ x ∧ q.l = r.l ∧ q.r = (subT s.ar r.r a).flat ∧ q.rule = (k : Int) ∧ q.at_ = (a : Int) := by
  unfold depOf at h
  split at h
  · cases h
  · split at h
    · cases h
    · split at h
      · cases h
      · cases h; exact ⟨by omega, rfl, rfl, rfl, rfl⟩
/-- What is so of a pair of the list. -/
structure PairG (s : Sy) (q : DepP) : Prop where
  ok : depOk s q = true
  tl : TermP s.ar q.l
  tr : TermP s.ar q.r
  hl : ∃ x, q.l[0]? = some x ∧ 0 ≤ x
  hr : ∃ x, q.r[0]? = some x ∧ 0 ≤ x
theorem pair_good {s : Sy} (hs : SysP s) {q : DepP} (h : q ∈ prAll s) : PairG s q := by
  obtain ⟨k, j, r, x, h1, h2, h3⟩ := mem_prS h
  obtain ⟨e0, e1, e2, e3, e4⟩ := depOf_eq h3
  have hok := dep_good hs h1 h2 h3 e3 e4
  obtain ⟨_, t1, t2⟩ := depOk_terms hok
  obtain ⟨hL, hR, hh, _⟩ := hs.2.2 k r h1
  refine ⟨hok, t1, t2, ?_, ?_⟩
  · have hp : 0 < r.l.length := hL.2.1.1
    exact ⟨r.l[0], by rw [e1]; exact List.getElem?_eq_getElem hp, hh _ (List.getElem?_eq_getElem hp)⟩
  · obtain ⟨hT, _, rest, hd⟩ := sub_term hR (List.getElem?_eq_some_iff.1 h2).1
    refine ⟨x, ?_, e0⟩
    have h5 : (r.r.drop j)[0]? = some x := by rw [List.getElem?_drop, Nat.add_zero]; exact h2
    rw [hd, List.getElem?_append_left hT.2.1.1] at h5
    rw [e2]; exact h5
theorem fill_head {h : Int → List Int} {t : List Int} {x : Int} (hx : t[0]? = some x) (h0 : 0 ≤ x) : (fill h t)[0]? = some x := by
  cases t with
  | nil => cases hx
  | cons y t =>
    cases hx
    rw [fill_cons, if_neg (by omega)]; rfl
theorem con_heads {s : Sy} {p q : DepP} (h : connV s p q = true) : p.r[0]? = q.l[0]? := by
  by_cases e : p.r[0]? = q.l[0]?
  · exact e
  · rw [connV_head e] at h; cases h
theorem con_of {s : Sy} {p q : DepP} {τ : List (List Int)} {k : Int} (hp : PairG s p) (hq : PairG s q) (hσ : SubP s.ar τ) (hk : 0 ≤ k) (he : fill (gives τ) p.r = fill (gives τ) (shL k q.l)) : connV s p q = true := by
  obtain ⟨x, hx, hx0⟩ := hp.hr
  obtain ⟨y, hy, hy0⟩ := hq.hl
  have h1 := fill_head (h := gives τ) hx hx0
  have h2 : (shL k q.l)[0]? = some y := by
    unfold shL
    rw [List.getElem?_map, hy]
    unfold shI
    simp only [Option.map_some]
    rw [if_neg (by omega)]
  have h3 := fill_head (h := gives τ) h2 hy0
  rw [he, h3] at h1
  have hxy : p.r[0]? = q.l[0]? := by rw [hx, hy]; exact h1.symm
  by_cases hc : 24 < capF s p.r
  · exact connV_many hxy hc
  · rw [connV_uni hxy hc]; exact cap_uni hp.tr hq.tl hσ hk (by omega) he
theorem same_iff {s : Sy} {p q : DepP} (hp : p ∈ prAll s) (hq : q ∈ prAll s) : p.same q = ((p.rule == q.rule) && (p.at_ == q.at_)) := by
  obtain ⟨k, j, r, x, h1, h2, h3⟩ := mem_prS hp
  obtain ⟨k', j', r', x', g1, g2, g3⟩ := mem_prS hq
  obtain ⟨_, e1, e2, e3, e4⟩ := depOf_eq h3
  obtain ⟨_, f1, f2, f3, f4⟩ := depOf_eq g3
  by_cases e : p.rule = q.rule ∧ p.at_ = q.at_
  · have hk : k = k' := by rw [e3, f3] at e; omega
    have hj : j = j' := by rw [e4, f4] at e; omega
    subst hk; subst hj
    rw [h1] at g1; cases g1
    unfold DepP.same
    rw [e1, e2, f1, f2, e.1, e.2]; simp
  · unfold DepP.same
    by_cases h : p.rule = q.rule
    · have h' : ¬ p.at_ = q.at_ := fun h' => e ⟨h, h'⟩
      rw [show (p.at_ == q.at_) = false by simpa using h']; simp
    · rw [show (p.rule == q.rule) = false by simpa using h]; simp

/-- A pair of the row, with where its slices are. -/
theorem OwE.get {w : World} {B top n c i : Nat} {A : Option Addr} {ps : List DepP} (h : OwE w B top A n c ps) (hi : i < n) : ∃ q b o A1 n1 c1 A2 n2 c2, ps[i]? = some q ∧ A = some ⟨b, o, none⟩ ∧ w.cell? ⟨b, o + i * 4, none⟩ = some (.slice A1 n1 c1) ∧ w.cell? ⟨b, o + i * 4 + 1, none⟩ = some (.slice A2 n2 c2) ∧
    w.cell? ⟨b, o + i * 4 + 2, none⟩ = some (.int .i64 q.rule) ∧ w.cell? ⟨b, o + i * 4 + 3, none⟩ = some (.int .i64 q.at_) ∧ (n1 ≤ c1 ∧ c1 ≤ 9223372036854775807) ∧ (n2 ≤ c2 ∧ c2 ≤ 9223372036854775807) ∧ OwI w B A1 n1 c1 q.l ∧ OwI w B A2 n2 c2 q.r := by
  obtain ⟨⟨hn, hl, hnc, hc⟩, G, C, ho, hs⟩ := h
  have hil : i < ps.length := by omega
  have hq := List.getElem?_eq_getElem hil
  obtain ⟨g, cap, hv, _, _⟩ := World.ownsRow.form ho (by omega)
  cases hv
  have hcell : ∀ o, o < 4 → w.cell? ⟨g, i * 4 + o, none⟩ = (cells4 G C i ps[i])[o]? := fun o h4 => by
    have h1 := World.ownsRow.cellAt ho (i * 4 + o) (by omega)
    rw [h1, cellsE_get G C ps 0 i o _ hq h4, Nat.zero_add]
  obtain ⟨k1, k3⟩ := hs i _ hq
  exact ⟨_, g, 0, _, _, _, _, _, _, hq, rfl, by rw [Nat.zero_add]; exact hcell 0 (by omega), by rw [Nat.zero_add]; exact hcell 1 (by omega), by rw [Nat.zero_add]; exact hcell 2 (by omega), by rw [Nat.zero_add]; exact hcell 3 (by omega), k1.1.cap, k3.1.cap, k1.1, k3.1⟩
theorem OwE.only {w w' : World} {g B top n c : Nat} {A : Option Addr} {ps : List DepP} (h : OwE w B top A n c ps) (k : Only w w' g) (hg : g < B) : OwE w' B top A n c ps := by
  obtain ⟨h1, G, C, h2, h3⟩ := h
  refine ⟨h1, G, C, ⟨h2.1, ?_⟩, fun i q hq => ?_⟩
  · rcases h2.2 with h4 | ⟨g', cap, cur, hv, hg', hh, r⟩
    · exact .inl h4
    · exact .inr ⟨g', cap, cur, hv, hg', (k.block g' (Array.getElem?_eq_some_iff.1 hh).1 (fun e => by cases e; omega)).trans hh, r⟩
  · obtain ⟨⟨k1, k2⟩, k3, k4⟩ := h3 i q hq
    exact ⟨⟨k1.only k hg, k2⟩, k3.only k hg, k4⟩
/-- A pair in a box. -/
structure PrAt (lo : Nat) (w : World) (p : Nat) (A1 A2 : Option Addr) (n1 c1 n2 c2 : Nat) (q : DepP) : Prop where
  e0 : w.cell? ⟨p, 0, none⟩ = some (.slice A1 n1 c1)
  e1 : w.cell? ⟨p, 1, none⟩ = some (.slice A2 n2 c2)
  e2 : w.cell? ⟨p, 2, none⟩ = some (.int .i64 q.rule)
  e3 : w.cell? ⟨p, 3, none⟩ = some (.int .i64 q.at_)
  pl : lo ≤ p
  k1 : n1 ≤ c1 ∧ c1 ≤ 9223372036854775807
  k2 : n2 ≤ c2 ∧ c2 ≤ 9223372036854775807
  o1 : OwI w lo A1 n1 c1 q.l
  o2 : OwI w lo A2 n2 c2 q.r
section
variable {lo : Nat} {w w' : World} {p g : Nat} {A1 A2 : Option Addr} {n1 c1 n2 c2 : Nat} {q : DepP}
theorem PrAt.ext (h : PrAt lo w p A1 A2 n1 c1 n2 c2 q) (k : Ext w w') : PrAt lo w' p A1 A2 n1 c1 n2 c2 q :=
  ⟨Ext.keep k h.e0, Ext.keep k h.e1, Ext.keep k h.e2, Ext.keep k h.e3, h.pl, h.k1, h.k2, h.o1.ext k, h.o2.ext k⟩
theorem PrAt.only (h : PrAt lo w p A1 A2 n1 c1 n2 c2 q) (k : Only w w' g) (hg : g < lo) : PrAt lo w' p A1 A2 n1 c1 n2 c2 q :=
  ⟨cell_onlyN k (by have := h.pl; omega) h.e0, cell_onlyN k (by have := h.pl; omega) h.e1, cell_onlyN k (by have := h.pl; omega) h.e2, cell_onlyN k (by have := h.pl; omega) h.e3, h.pl, h.k1, h.k2, h.o1.only k hg, h.o2.only k hg⟩
theorem PrAt.dp (h : PrAt lo w p A1 A2 n1 c1 n2 c2 q) : RdDp w (.agg #[.slice A1 n1 c1, .slice A2 n2 c2, .int .i64 q.rule, .int .i64 q.at_]) q := RdDp.mk h.k1 h.k2 h.o1.ri h.o2.ri
theorem PrAt.dq (h : PrAt lo w p A1 A2 n1 c1 n2 c2 q) : RdDq w (.agg #[.slice A1 n1 c1, .slice A2 n2 c2, .int .i64 q.rule, .int .i64 q.at_]) q := RdDq.mk h.o1.ri h.o2.ri
theorem PrAt.mk' (k1 : n1 ≤ c1 ∧ c1 ≤ 9223372036854775807) (k2 : n2 ≤ c2 ∧ c2 ≤ 9223372036854775807) (h1 : OwI w lo A1 n1 c1 q.l) (h2 : OwI w lo A2 n2 c2 q.r) (hl : lo ≤ w.heap.size) :
    PrAt lo (w.alloc (.cells #[.slice A1 n1 c1, .slice A2 n2 c2, .int .i64 q.rule, .int .i64 q.at_] 51)) w.heap.size A1 A2 n1 c1 n2 c2 q :=
  ⟨by simp [go_sem], by simp [go_sem], by simp [go_sem], by simp [go_sem], hl, k1, k2, h1.alloc _, h2.alloc _⟩
end
end Go.Proofs.Ytempekmenkeigaa
