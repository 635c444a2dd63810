/- FnKboTotal, its contracts and its law on numbers. -/
import Derived.Test.YtleahogikppepaaMKboT
import Derived.Test.YtleahogikppepaaKboLess
import Derived.Test.YtleahogikppepaaLight
import Derived.Test.YtleahogikppepaaPlainW
import Derived.Test.YtleahogikppepaaWeigh
import Derived.Test.YtleahogikppepaaDicW
namespace Go.Proofs.Ytleahogikppepaa
open Go.RowKit
set_option linter.unusedSimpArgs false
set_option linter.unusedVariables false

theorem c_kboLessB {v0 v1 v2 v3 : Value} {ar : List Int} {W : Wt} {s t : List Int} {b : Bool} {w : World} (hb : kboLess ar W s t = b) (h0 : RdSig w v0 ar) (h1 : RdWt w v1 W) (h2 : RdIc w v2 s) (h3 : RdIc w v3 t) :
    Calls Try.prog 21 #[v0, v1, v2, v3] w fun e w' => e = .returned (.bool b) ∧ Ext w w' := by subst hb; exact c_iKboLess h0 h1 h2 h3
theorem c_weightOfB {v0 v1 v2 : Value} {ar t : List Int} {W : Wt} {x : Int} {w : World} (hx : weightOf ar W t = x) (h0 : RdSig w v0 ar) (h1 : RdWt w v1 W) (h2 : RdI w v2 t) :
    Calls Try.prog 36 #[v0, v1, v2] w fun e w' => e = .returned (.int .i64 x) ∧ Ext w w' := by subst hx; exact c_iWeightOf h0 h1 h2
theorem c_weightsOkB {v0 v1 : Value} {ar : List Int} {t : Wt} {b : Bool} {w : World} (hb : wtOk ar t = b) (h0 : RdSig w v0 ar) (h1 : RdWt w v1 t) :
    Calls Try.prog 22 #[v0, v1] w fun e w' => e = .returned (.bool b) ∧ Ext w w' := by subst hb; exact c_iWeightsOk h0 h1

/-- The signature of the laws by dice. -/
abbrev ar3 : List Int := [2, 1, 0]
theorem sig3 : SigP ar3 := sigOk_iff.1 (by first | rfl | decide | simp [sigOk, SigP])
theorem term3 {u : Tm} (h : u.Ok ar3) (hl : u.flat.length ≤ 60) (hg : ∀ x ∈ u.flat, -24 ≤ x) : TermP ar3 u.flat := by
  refine ⟨sig3, ⟨flat_pos u, hl⟩, hg, ?_⟩
  have := scan_flat u h [] 0
  rw [List.append_nil] at this
  rw [show (1 : Nat) = 0 + 1 from rfl, this, scan_zero]
  simp
section
variable {W : Wt} {a b : Tm}
theorem kboLess3 (hW : WtP ar3 W) (ha : TermP ar3 a.flat) (hb : TermP ar3 b.flat) (oa : a.Ok ar3) (ob : b.Ok ar3) : kboLess ar3 W a.flat b.flat = decide (0 < kbo ar3 W a b) := by
  unfold kboLess kboAns
  rw [if_pos ⟨wtOk_iff.2 hW, termOk_iff.2 ha, termOk_iff.2 hb⟩, tmOf_flat oa, tmOf_flat ob]
theorem weight3 (hW : WtP ar3 W) (ha : TermP ar3 a.flat) : weightOf ar3 W a.flat = wtOf W a.flat := if_pos ⟨wtOk_iff.2 hW, termOk_iff.2 ha⟩
theorem wt3_sym (hW : WtP ar3 W) : ∃ s0 s1 s2, W.sym = [s0, s1, s2] ∧ 0 ≤ s0 ∧ 0 ≤ s1 ∧ W.var ≤ s2 ∧ 1 ≤ W.var ∧ s0 ≤ 20 ∧ s1 ≤ 20 ∧ s2 ≤ 20 := by
  obtain ⟨hr, hl, hv, h⟩ := hW
  have hrl : W.rank.length = 3 := hr.2.1
  match hs : W.sym, (show W.sym.length = 3 from hl) with
  | [s0, s1, s2], _ =>
    have k : ∀ j : Nat, j < 3 → ∃ r, W.rank[j]? = some r := fun j hj => ⟨_, List.getElem?_eq_getElem (by omega)⟩
    obtain ⟨r0, e0⟩ := k 0 (by omega)
    obtain ⟨r1, e1⟩ := k 1 (by omega)
    obtain ⟨r2, e2⟩ := k 2 (by omega)
    have h0 := h 0 s0 2 r0 (by rw [hs]; rfl) rfl e0
    have h1 := h 1 s1 1 r1 (by rw [hs]; rfl) rfl e1
    have h2 := h 2 s2 0 r2 (by rw [hs]; rfl) rfl e2
    exact ⟨s0, s1, s2, rfl, h0.1.1, h1.1.1, h2.2.1 rfl, hv.1, h0.1.2, h1.1.2, h2.1.2⟩
theorem light3 {s0 s1 s2 : Int} (hW : WtP ar3 W) (hs : W.sym = [s0, s1, s2]) : lightestOf ar3 W = s2 := by
  unfold lightestOf
  rw [if_pos (wtOk_iff.2 hW), hs]
  simp [ltK, ltStep, ar3]
theorem wt_ge3 {s0 s1 s2 : Int} (hs : W.sym = [s0, s1, s2]) (h0 : 0 ≤ s0) (h1 : 0 ≤ s1) (h2 : 0 ≤ s2) (oa : a.Ok ar3) (ga : Gnd a.flat) : s2 ≤ wtOf W a.flat := by
  have hw : ∀ x : Int, 0 ≤ x → x < 3 → (x = 0 ∧ wt1 W x = s0) ∨ (x = 1 ∧ wt1 W x = s1) ∨ (x = 2 ∧ wt1 W x = s2) := by
    intro x hx hx3
    have hx' : x = 0 ∨ x = 1 ∨ x = 2 := by omega
    rcases hx' with rfl | rfl | rfl
    · exact .inl ⟨rfl, wt1_sym (by omega) (by rw [hs]; rfl)⟩
    · exact .inr (.inl ⟨rfl, wt1_sym (by omega) (by rw [hs]; rfl)⟩)
    · exact .inr (.inr ⟨rfl, wt1_sym (by omega) (by rw [hs]; rfl)⟩)
  refine wt_leaf h2 (ar := ar3) (fun x hx hax => ?_) (fun x hx hx3 => ?_) a oa ga
  · have hx3 : x < 3 := arI_lt hax
    rcases hw x hx hx3 with ⟨rfl, e⟩ | ⟨rfl, e⟩ | ⟨rfl, e⟩
    · simp [arI, ar3] at hax
    · simp [arI, ar3] at hax
    · rw [e]; exact Int.le_refl _
  · rcases hw x hx hx3 with ⟨rfl, e⟩ | ⟨rfl, e⟩ | ⟨rfl, e⟩ <;> rw [e] <;> assumption
theorem wt_le3 {s0 s1 s2 : Int} (hs : W.sym = [s0, s1, s2]) (h0 : s0 ≤ 20) (h1 : s1 ≤ 20) (h2 : s2 ≤ 20) (oa : a.Ok ar3) (ga : Gnd a.flat) : wtOf W a.flat ≤ 20 * a.flat.length := by
  have hlt : ∀ y ∈ a.flat, 0 ≤ y ∧ y < 3 := fun y hy => ⟨ga y hy, by
    have : y ∈ flatL [a] := by rw [flatL_cons, flatL_nil, List.append_nil]; exact hy
    exact wt_leaf.flat_lt (ar := ar3) [a] (OkL_cons.2 ⟨oa, by simp [OkL]⟩) y this⟩
  have : ∀ (t : List Int), (∀ y ∈ t, 0 ≤ y ∧ y < 3) → wtOf W t ≤ 20 * t.length := by
    intro t
    induction t with
    | nil => intro _; exact Int.le_refl 0
    | cons y t ih =>
      intro hy
      rw [wtOf_cons]
      have h3 := ih fun z hz => hy z (List.mem_cons_of_mem _ hz)
      have h4 := hy y (List.mem_cons_self ..)
      have h5 : wt1 W y ≤ 20 := by
        have hx' : y = 0 ∨ y = 1 ∨ y = 2 := by omega
        rcases hx' with rfl | rfl | rfl
        · rw [wt1_sym (s := s0) (by omega) (by rw [hs]; rfl)]; exact h0
        · rw [wt1_sym (s := s1) (by omega) (by rw [hs]; rfl)]; exact h1
        · rw [wt1_sym (s := s2) (by omega) (by rw [hs]; rfl)]; exact h2
      rw [List.length_cons]; omega
  exact this _ hlt
/-- Both of them under one head. -/
theorem both_ok (oa : a.Ok ar3) (ob : b.Ok ar3) : (Tm.node 0 [a, b]).Ok ar3 ∧ (Tm.node 0 [a, b]).flat = 0 :: (a.flat ++ b.flat) := by
  refine ⟨Ok_node.2 ⟨rfl, OkL_cons.2 ⟨oa, OkL_cons.2 ⟨ob, by simp [OkL]⟩⟩⟩, ?_⟩
  rw [flat_node, flatL_cons, flatL_cons, flatL_nil, List.append_nil]
theorem plain3 : WtP ar3 (plainWt ar3) := by
  have hp : plainWt ar3 = ⟨1, [1, 1, 1], [0, 1, 2]⟩ := by
    unfold plainWt
    rw [if_pos (sigOk_iff.2 sig3)]
    rfl
  rw [hp]
  refine ⟨⟨sig3, rfl, fun i hi => ?_⟩, rfl, by decide, fun j s a r e1 e2 e3 => ?_⟩
  · have : i = 0 ∨ i = 1 ∨ i = 2 := by simp at hi; omega
    rcases this with rfl | rfl | rfl <;> decide
  · show WtAt 1 3 s a r
    match j, e1, e2, e3 with
    | 0, e1, e2, e3 => cases e1; cases e2; cases e3; exact ⟨by omega, by omega, by omega⟩
    | 1, e1, e2, e3 => cases e1; cases e2; cases e3; exact ⟨by omega, by omega, by omega⟩
    | 2, e1, e2, e3 => cases e1; cases e2; cases e3; exact ⟨by omega, by omega, by omega⟩
    | j + 3, e1, _, _ => simp at e1
theorem plain_len (ha : TermP ar3 a.flat) (oa : a.Ok ar3) (ga : Gnd a.flat) : weightOf ar3 (plainWt ar3) a.flat = a.flat.length := by
  rw [weight3 plain3 ha]
  have hp : plainWt ar3 = ⟨1, [1, 1, 1], [0, 1, 2]⟩ := by
    unfold plainWt
    rw [if_pos (sigOk_iff.2 sig3)]
    rfl
  rw [hp]
  have hlt : ∀ y ∈ a.flat, 0 ≤ y ∧ y < 3 := fun y hy => ⟨ga y hy, by
    have : y ∈ flatL [a] := by rw [flatL_cons, flatL_nil, List.append_nil]; exact hy
    exact wt_leaf.flat_lt (ar := ar3) [a] (OkL_cons.2 ⟨oa, by simp [OkL]⟩) y this⟩
  have : ∀ (t : List Int), (∀ y ∈ t, 0 ≤ y ∧ y < 3) → wtOf ⟨1, [1, 1, 1], [0, 1, 2]⟩ t = t.length := by
    intro t
    induction t with
    | nil => intro _; rfl
    | cons y t ih =>
      intro hy
      rw [wtOf_cons, ih fun z hz => hy z (List.mem_cons_of_mem _ hz)]
      have h1 := hy y (List.mem_cons_self ..)
      have h2 : wt1 ⟨1, [1, 1, 1], [0, 1, 2]⟩ y = 1 := by
        have hx' : y = 0 ∨ y = 1 ∨ y = 2 := by omega
        rcases hx' with rfl | rfl | rfl <;> rfl
      rw [h2, List.length_cons]; omega
  exact this _ hlt
end

end Go.Proofs.Ytleahogikppepaa
