/- Several texts in one: FrD. -/
import Derived.Test.YtdlgjhngndpgoaaQ35
import Derived.Test.YtdlgjhngndpgoaaQ36
namespace Go.Proofs.Ytdlgjhngndpgoaa
open Go.ChangeShapes Go.WideShapes Go.ChangeAt Go.RowKit Go.Joins Go.Deep Go.Conc
set_option linter.unusedVariables false
set_option linter.unusedSimpArgs false
set_option maxRecDepth 100000
abbrev l6 : List (List Int) := [pm 0, pm 1, pm 2, pm 3, pm 4, pm 5]
theorem l6_get : ∀ j, j < 6 → l6[j]? = some (pm j) := by decide
theorem mt_iff {o : Option (List Int)} : ∀ {k : Nat}, mt o k = true ↔ ∃ j, j < k ∧ o = some (pm j)
  | 0 => ⟨(fun h => by cases h), (fun ⟨j, h, _⟩ => absurd h (by omega))⟩
  | k + 1 => by
    show (mt o k || decide (o = some (pm k))) = true ↔ _
    rw [Bool.or_eq_true, decide_eq_true_eq, mt_iff]
    constructor
    · rintro (⟨j, h1, h2⟩ | h)
      · exact ⟨j, by omega, h2⟩
      · exact ⟨k, by omega, h⟩
    · rintro ⟨j, h1, h2⟩
      rcases Nat.lt_or_ge j k with h | h
      · exact .inl ⟨j, h, h2⟩
      · obtain rfl : j = k := by omega
        exact .inr h2
theorem find6 {T : List Int → Bool} {o : Option (List Int)} (ho : o = l6.find? T) : (∀ k, k < 6 → mt o (k + 1) = false → T (pm k) = false) ∧ mt o 6 = o.isSome ∧ ∀ r, o = some r → T r = true := by
  subst ho
  have key : ∀ r, l6.find? T = some r → ∃ j, j < 6 ∧ r = pm j ∧ ∀ k, k < j → T (pm k) = false := fun r hr => by
    obtain ⟨_, us, vs, e, h⟩ := List.find?_eq_some_iff_append.1 hr
    have hl : us.length < 6 := by
      have := congrArg List.length e
      simp at this; omega
    have hg := l6_get us.length hl
    have hj : l6[us.length]? = some r := by rw [e]; simp
    rw [hj] at hg
    refine ⟨us.length, hl, by injection hg, fun k hk => ?_⟩
    have h1 := l6_get k (by omega)
    have h2 : us[k]? = some (pm k) := by
      rw [← h1, e, List.getElem?_append_left hk]
    simpa using h _ (List.mem_of_getElem? h2)
  refine ⟨fun k hk hm => ?_, ?_, fun r hr => List.find?_some hr⟩
  · cases hT : T (pm k) with
    | false => rfl
    | true =>
      exfalso
      cases hf : l6.find? T with
      | none => exact absurd hT (by simpa using List.find?_eq_none.1 hf (pm k) (List.mem_of_getElem? (l6_get k hk)))
      | some r =>
        obtain ⟨j, h1, rfl, h2⟩ := key r hf
        rw [hf] at hm
        have : ¬ mt (some (pm j)) (k + 1) = true := by rw [hm]; decide
        refine this (mt_iff.2 ⟨j, ?_, rfl⟩)
        rcases Nat.lt_or_ge j (k + 1) with h | h
        · exact h
        · rw [h2 k (by omega)] at hT; cases hT
  · cases hf : l6.find? T with
    | none =>
      cases hm : mt none 6 with
      | false => rfl
      | true => obtain ⟨j, _, e⟩ := mt_iff.1 hm; cases e
    | some r =>
      obtain ⟨j, h1, rfl, h2⟩ := key r hf
      exact mt_iff.2 ⟨j, h1, rfl⟩
theorem fndAll_find {lex : Bool} {s : Sy} : ∀ rs : List (List Int), fndAll lex s rs none = rs.find? (orientsV lex s)
  | [] => rfl
  | us :: rs => by
    show fndAll lex s rs (fndN lex s us none) = _
    have hs : ∀ x (rs : List (List Int)), fndAll lex s rs (some x) = some x := fun x rs => by
      induction rs with
      | nil => rfl
      | cons _ _ ih => exact ih
    by_cases h : orientsV lex s us = true
    · rw [show fndN lex s us none = some us by simp [fndN, h], hs, List.find?_cons_of_pos h]
    · rw [show fndN lex s us none = none by simp [fndN, h], List.find?_cons_of_neg h]
      exact fndAll_find rs
theorem lstR_step (k : Nat) (us : List Int) : lstR (k + 1) us = us :: if nextB us = true then lstR k (nextV us) else [] := rfl
theorem lstR_stop (k : Nat) {us : List Int} (h : nextB us = false) : lstR k us = [us] := by
  cases k with
  | zero => rfl
  | succ k => rw [lstR_step, if_neg (by rw [h]; decide)]
theorem lst6 (n : Nat) : lstR (n + 1 + 1 + 1 + 1 + 1) (pm 0) = l6 := by
  rw [lstR_step, if_pos (nb 0 (by decide)), nx0, lstR_step, if_pos (nb 1 (by decide)), nx1, lstR_step, if_pos (nb 2 (by decide)), nx2, lstR_step, if_pos (nb 3 (by decide)), nx3, lstR_step, if_pos (nb 4 (by decide)), nx4, lstR_stop _ nb5]
theorem ansF6 {lex : Bool} {s : Sy} (hs : SysP s) (h : s.ar = [2, 1, 0]) : ansF lex s = l6.find? (orientsV lex s) := by
  unfold ansF
  rw [if_pos (sysOk_iff.2 hs), fndAll_find]
  have : allR s = l6 := by
    unfold allR
    rw [h]
    have e : muR (upI 0 3) = 497 + 1 + 1 + 1 + 1 + 1 := by decide
    show lstR (muR (upI 0 3)) (upI 0 3) = _
    rw [e]
    exact lst6 497
  rw [this]
theorem next6 {k : Nat} (hk : k < 5) : nextV (pm k) = pm (k + 1) := by
  rcases k with _ | _ | _ | _ | _ | k
  · exact nx0
  · exact nx1
  · exact nx2
  · exact nx3
  · exact nx4
  · omega
theorem nextB6 {k : Nat} (hk : k < 6) : nextB (pm k) = decide (k < 5) := by
  rcases Nat.lt_or_ge k 5 with h | h
  · rw [nb k h, decide_eq_true h]
  · obtain rfl : k = 5 := by omega
    rw [nb5]; rfl
theorem bRn : ∃ f, Try.prog.funcs[(base 3).fn]? = some f := ⟨_, Try.func3⟩
theorem tres_R : TmpRes Try.f3 := tmpB_ok (P := Try.prog) (k := 3) (by kernel_rfl) _ Try.func3
theorem leaveR {a : Act} {y : Value} (h : a.tmps[2]? = some y) (u : World) : (results Try.f3 a.tmps).run Try.prog u = .ok y u := by
  rw [results_tmp (fn := Try.f3) (t := 2) rfl]
  simp [h]
theorem okR {m : Nat} : ∀ c ∈ [pr0, prA, pr3, pr4, pr7, pr8, pr9, pr10, pr11, pr12, pr13, pr14, pr15, pr17, pr18, pr20, pr21, pr22], CodeOK Try.prog (LM m) c := by
  intro c hc
  simp only [List.mem_cons, List.not_mem_nil, or_false] at hc
  rcases hc with rfl | rfl | rfl | rfl | rfl | rfl | rfl | rfl | rfl | rfl | rfl | rfl | rfl | rfl | rfl | rfl | rfl | rfl <;> exact codeB_ok (fun _ h => h) (fun _ h => h) (by kernel_rfl)
section
variable {m : Nat} {A : An} {Post : Value → World → Prop} {s : Sy} {o1 o2 : Option (List Int)} {Stop : Set_ → Goroutine → World → Prop}
theorem ret_R (post : ∀ γ v w O, Hx A.v v → WRel (LM m) γ v w → Acc A.O A.β A.v A.w O γ v w → Post (.bool true) w) (hS : ∀ O g w, AtEnd_ Try.prog Post g w → Stop O g w) :
    WkR Try.prog (LM m) true Stop A (base 3) [] (Rr A.v) := by
  refine WkR.done (fn := Try.f3) bR (by kernel_rfl) Try.func3 tres_R hS (R := fun x v => x = .bool true ∧ Hx A.v v) (fun a v h => ⟨.bool true, leaveR h.2.1, rfl, h.2.2⟩) (fun γ x y v w O h hxy hW hn hA => ?_)
  obtain ⟨rfl, hH⟩ := h
  have : y = .bool true := by
    generalize hx : Value.bool true = x at hxy
    cases hxy <;> cases hx
    rfl
  subst this
  exact post γ v w O hH hW hA
theorem bool_eq {a : Act} {t : Nat} {b c : Bool} (h : a.tmps[t]? = some (.bool b)) (h2 : a.eval (.tmp t) = .bool c) : b = c := by
  rw [eval_tmp h] at h2
  injection h2
theorem loopR (hSo : Offs Stop) (hret : WkR Try.prog (LM m) true Stop A (base 3) [] (Rr A.v))
    (h1 : ∀ k, k < 6 → mt o1 (k + 1) = false → orientsV true s (pm k) = false) (h2 : ∀ k, k < 6 → mt o2 (k + 1) = false → orientsV false s (pm k) = false) (e1 : mt o1 6 = o1.isSome) (e2 : mt o2 6 = o2.isSome)
    (g1 : ∀ r, o1 = some r → orientsV true s r = true) (g2 : ∀ r, o2 = some r → orientsV false s r = true) :
    ∀ n k, k + n = 6 → Wk Try.prog (LM m) true Stop A (base 3) [] [.code prB, .inLoop prB, .inBlock 0, .code (.seq pr22 .ret)] (Jr A.v s o1 o2 k (mt o1 k) (mt o2 k) (pm k)) := by
  intro n
  induction n with
  | zero =>
    intro k hk
    obtain rfl : k = 6 := by omega
    generalize hK : [Item.inLoop prB, .inBlock 0, .code (.seq pr22 .ret)] = K
    rw [prB_eq]
    refine Wk.seq (Wk.seq (Wk.code (X m) hSo (okR _ (by simp)) bR bRn (Ρ := fun _ _ => False) (fun a v τ d h => h) (fun a v τ d h => h) Ins.f (fun a v h hd => wr11 h hd) ?_ WkR.no))
    refine Wk.cond (xtmp 33) (fun a v h => ⟨_, eval_tmp h.2⟩) (fun γ ag a v w O hp => absurd (bool_eq hp.1.2 hp.2) (by decide)) ?_
    refine Wk.exit (k' := [.code (.seq pr22 .ret)]) (by rw [← hK]; rfl) ?_
    refine (Wk.seq (Wk.code (X m) hSo (okR _ (by simp)) bR bRn (Φ := Jr A.v s o1 o2 6 o1.isSome o2.isSome (pm 6)) (Ψ := Rr A.v) (Ρ := fun _ _ => False) (fun a v τ d h => h) (fun a v τ d h => h) Ins.f (fun a v h hd => wr22 g1 g2 h hd) (Wk.ret hret) WkR.no)).mono fun a v h => ?_
    have := h.1.1
    rwa [e1, e2] at this
  | succ n ih =>
    intro k hk
    have hk6 : k < 6 := by omega
    generalize hK : [Item.inLoop prB, .inBlock 0, .code (.seq pr22 .ret)] = K
    rw [prB_eq]
    refine Wk.seq (Wk.seq (Wk.code (X m) hSo (okR _ (by simp)) bR bRn (Ρ := fun _ _ => False) (fun a v τ d h => h) (fun a v τ d h => h) Ins.f (fun a v h hd => wr11 h hd) ?_ WkR.no))
    refine Wk.cond (xtmp 33) (fun a v h => ⟨_, eval_tmp h.2⟩) ?_ (fun γ ag a v w O hp => absurd (bool_eq hp.1.2 hp.2) (by rw [decide_eq_true hk6]; decide))
    refine Wk.mono (Ψ := Jr A.v s o1 o2 k (mt o1 k) (mt o2 k) (pm k)) ?_ (fun a v h => h.1.1)
    refine Wk.skip (Wk.seq (Wk.block ?_))
    rw [prC_eq]
    refine Wk.seq (Wk.code (X m) hSo (okR _ (by simp)) bR bRn (Ψ := Jr A.v s o1 o2 k (mt o1 (k + 1)) (mt o2 k) (pm k)) (Ρ := fun _ _ => False) (fun a v τ d h => h) (fun a v τ d h => h) Ins.f (fun a v h hd => wr13 h hd) ?_ WkR.no)
    refine Wk.seq (Wk.code (X m) hSo (okR _ (by simp)) bR bRn (Ψ := Jr A.v s o1 o2 k (mt o1 (k + 1)) (mt o2 (k + 1)) (pm k)) (Ρ := fun _ _ => False) (fun a v τ d h => h) (fun a v τ d h => h) Ins.f (fun a v h hd => wr14 h hd) ?_ WkR.no)
    refine Wk.seq (Wk.seq (Wk.code (X m) hSo (okR _ (by simp)) bR bRn (Ρ := fun _ _ => False) (fun a v τ d h => h) (fun a v τ d h => h) Ins.f (fun a v h hd => wr15 (h1 k hk6) (h2 k hk6) h hd) ?_ WkR.no))
    refine Wk.cond (xtmp 69) (fun a v h => ⟨_, eval_tmp h.2⟩) (fun γ ag a v w O hp => absurd (bool_eq hp.1.2 hp.2) (by decide)) ?_
    refine Wk.mono (Ψ := Jr A.v s o1 o2 k (mt o1 (k + 1)) (mt o2 (k + 1)) (pm k)) ?_ (fun a v h => h.1.1)
    refine Wk.skip (Wk.seq (Wk.code (X m) hSo (okR _ (by simp)) bR bRn (Ψ := Jn A.v s o1 o2 k (mt o1 (k + 1)) (mt o2 (k + 1)) (pm k) (nextV (pm k)) (nextB (pm k))) (Ρ := fun _ _ => False) (fun a v τ d h => h) (fun a v τ d h => h) Ins.f (fun a v h hd => wr17 rfl rfl h hd) ?_ WkR.no))
    refine Wk.seq (Wk.seq (Wk.code (X m) hSo (okR _ (by simp)) bR bRn (Ρ := fun _ _ => False) (fun a v τ d h => h) (fun a v τ d h => h) Ins.f (fun a v h hd => wr18 (nextB6 hk6) h hd) ?_ WkR.no))
    refine Wk.cond (xtmp 78) (fun a v h => ⟨_, eval_tmp h.2⟩) (fun γ ag a v w O hp => absurd (bool_eq hp.1.2 hp.2) (by decide)) ?_
    refine Wk.mono (Ψ := Jn A.v s o1 o2 k (mt o1 (k + 1)) (mt o2 (k + 1)) (pm k) (nextV (pm k)) (nextB (pm k))) ?_ (fun a v h => h.1.1)
    refine Wk.skip (Wk.seq (Wk.code (X m) hSo (okR _ (by simp)) bR bRn (Ρ := fun _ _ => False) (fun a v τ d h => h) (fun a v τ d h => h) Ins.f (fun a v h hd => wr20 h hd) ?_ WkR.no))
    have hend : Wk Try.prog (LM m) true Stop A (base 3) [] (.inBlock 1 :: .code pr12 :: K) (Jr A.v s o1 o2 k (mt o1 (k + 1)) (mt o2 (k + 1)) (pm (k + 1))) := by
      refine Wk.inBlock (Wk.code (X m) hSo (okR _ (by simp)) bR bRn (Ψ := Jr A.v s o1 o2 (k + 1) (mt o1 (k + 1)) (mt o2 (k + 1)) (pm (k + 1))) (Ρ := fun _ _ => False) (fun a v τ d h => h) (fun a v τ d h => h) Ins.f (fun a v h hd => wr12 hk6 h hd) ?_ WkR.no)
      rw [← hK]
      exact Wk.inLoop (ih (k + 1) (by omega))
    refine Wk.cond (xtmp 79) (fun a v h => ⟨_, eval_tmp h.2⟩) ?_ ?_
    · -- there is a next one
      by_cases h5 : k < 5
      · refine Wk.mono (Ψ := Jn A.v s o1 o2 k (mt o1 (k + 1)) (mt o2 (k + 1)) (pm k) (nextV (pm k)) (nextB (pm k))) ?_ (fun a v h => h.1.1)
        rw [next6 h5]
        exact Wk.code (X m) hSo (okR _ (by simp)) bR bRn (Ρ := fun _ _ => False) (fun a v τ d h => h) (fun a v τ d h => h) Ins.f (fun a v h hd => wr21 h hd) hend WkR.no
      · exact fun γ ag a v w O hp => absurd (bool_eq hp.1.2 hp.2) (by rw [nextB6 hk6, decide_eq_false h5]; decide)
    · by_cases h5 : k < 5
      · exact fun γ ag a v w O hp => absurd (bool_eq hp.1.2 hp.2) (by rw [nextB6 hk6, decide_eq_true h5]; decide)
      · obtain rfl : k = 5 := by omega
        exact Wk.skip (hend.mono fun a v h => h.1.1.1)
theorem lawR_wk {n0 : Nat} {x : Value} (h0 : RawBy A.v x n0) (post : ∀ γ v w O, Hx A.v v → WRel (LM m) γ v w → Acc A.O A.β A.v A.w O γ v w → Post (.bool true) w) :
    Wk Try.prog (LM m) true (ScrS Try.prog Post 1) A (base 3) [] [.code bodyR] (fun a v => a = litR x ∧ Hx A.v v) := by
  rw [bodyR_eq]
  refine Wk.codes (pcs := [pr0, prA, pr3, pr4]) (X m) (offs_scr 1) (fun c hc => okR c (by simp at hc ⊢; rcases hc with rfl | rfl | rfl | rfl <;> simp)) bR bRn (Ψ := fun a v => ∃ rs, Lg A.v ⟨[2, 1, 0], rs⟩ a v) (Ρ := Rr A.v) (fun a v τ d h => h) (fun a v τ d h => h) (fun a v τ d h => h) (fun a v h hd => ?_) ?_ (ret_R post fun _ _ _ => .inl)
  · obtain ⟨rfl, hH⟩ := h
    exact chunkR hH h0
  refine Wk.ex fun rs => ?_
  refine Wk.seq (call5 (StA := ScrS Try.prog Post 0) (offs_scr 0) (offs_scr 1) rfl scrS_mono ?_)
  refine Wk.seq (call6 (StA := fun _ g w => AtEnd_ Try.prog Post g w) offs_end (offs_scr 0) rfl (fun _ _ _ => .inl) ?_)
  refine Wk.mono (Ψ := fun a v => SysP ⟨[2, 1, 0], rs⟩ ∧ Li A.v ⟨[2, 1, 0], rs⟩ a v) (Wk.pure fun hs => ?_) (fun a v h => ⟨h.1.1.2.2.1.1, h⟩)
  have k1 := find6 (ansF6 (lex := true) hs rfl)
  have k2 := find6 (ansF6 (lex := false) hs rfl)
  refine Wk.codes (pcs := [pr7, pr8, pr9]) (X m) offs_end (fun c hc => okR c (by simp at hc ⊢; rcases hc with rfl | rfl | rfl <;> simp)) bR bRn (Ρ := fun _ _ => False) (fun a v τ d h => h) (fun a v τ d h => h) Ins.f (fun a v h hd => chunk7 h hd) ?_ WkR.no
  refine Wk.seq ?_
  rw [prL_eq]
  refine Wk.seq (Wk.code (X m) offs_end (okR _ (by simp)) bR bRn (Ρ := fun _ _ => False) (fun a v τ d h => h) (fun a v τ d h => h) Ins.f (fun a v h hd => wr10 h hd) ?_ WkR.no)
  exact Wk.block (Wk.loop (loopR offs_end (ret_R post fun _ _ _ h => h) k1.1 k2.1 k1.2.1 k2.2.1 k1.2.2 k2.2.2 6 0 rfl))
end
def RawByG (w : World) (v : Value) (n : Nat) : Prop := RawBy w v n ∧ ∃ A c, v = .slice A n c ∧ Fit w A n c
section
variable {H : Type} {enc : TypeId × Value → H} {w : World} {base b0 : Nat} {held : Bool} {r : Reach}
set_option maxRecDepth 100000 in
theorem raw_ByG {v : Value} {d : DataW H} {p : List MemPlace} (hv : Value.okWide Try.prog w r b0 22 v) (h : DataW.Trod enc Try.prog w base (fun _ => true) held 22 v d p) : ∃ x, RawByG w v x := by
  obtain ⟨x, hx⟩ := raw_By hv h
  refine ⟨x, hx, ?_⟩
  obtain ⟨A, c, rfl, _⟩ := hx
  refine ⟨A, c, rfl, ?_⟩
  obtain ⟨fuel, hf⟩ := h
  rcases open_ints Try.underlying22 Try.underlying5 (by kernel_rfl) hf with ⟨hcs, _⟩ | ⟨a, len, cap, zs, hcs, _, hl, hm, hz, _, hcell, hwf⟩
  · simp [Value.cells] at hcs
    exact .inl hcs.1
  · simp [Value.cells] at hcs
    obtain ⟨rfl, rfl, rfl⟩ := hcs
    simp only [if_true] at hz
    rcases Nat.eq_zero_or_pos c with h0 | h0
    · exact .inr ⟨a, rfl, .inr ⟨by omega, h0⟩⟩
    · exact Fit.of_cell (hcell 0 (by omega))
end
theorem start_ghostB {W : World} {v0 : Value} {n : Nat} (h : RawByG W v0 n) : ∃ m v, VRel (LM m) (bet0 W) v0 v0 ∧ m ≤ v.heap.size ∧ WRel (LM m) (bet0 W) v W ∧ RawBy v v0 n := by
  obtain ⟨h1, A, c, rfl, hf⟩ := h
  obtain ⟨M, hM⟩ := hf.rel
  obtain ⟨v, q1, q2, q3⟩ := ghost_start (LM M) rfl W
  refine ⟨M, v, hM M (Nat.le_refl _), ?_, q2, ?_⟩
  · rw [q1]
    show M ≤ W.heap.size + M
    omega
  · obtain ⟨A', c', e, k1, k2⟩ := h1
    cases e
    refine ⟨A, c, rfl, k1, fun hn => ?_⟩
    obtain ⟨b, o, e, k3⟩ := k2 hn
    exact ⟨b, o, e, fun j hj => by
      obtain ⟨y, k4, k5⟩ := k3 j hj
      exact ⟨y, q3 _ _ k4 (.int _ _), k5⟩⟩
theorem lawR_script {W : World} {v0 : Value} {n : Nat} (h : RawByG W v0 n) : Script_ Try.prog (fun v w => v = .bool true ∧ Below W.heap.size W w) 2 (fun x => x < W.heap.size) (G (Frame.enter Try.prog 3 #[v0] .normal) []) W := by
  obtain ⟨m, v, hv, hm, hW, hB⟩ := start_ghostB h
  rw [enter_at _ Try.func3 (c := bodyR) rfl]
  refine lawR_wk (m := m) (A := ⟨fun x => x < W.heap.size, bet0 W, v, W⟩) hB (fun γ v' w O hH hW' hA => ⟨rfl, real_end hm hW hW' hH hA⟩) (bet0 W) (litR v0) _ v W (fun x => x < W.heap.size) ⟨rfl, Hx.refl _⟩ rfl rfl ?_ hW (fun k x e => ?_) (Acc.refl _ _ _ _)
  · rw [litR_eq]
    refine VsRel.append (VsRel.one hv) ⟨by simp [Try.ntmps3], fun i v w h1 h2 => ?_⟩
    have e1 := Array.mem_of_getElem? h1
    have e2 := Array.mem_of_getElem? h2
    rw [(Array.mem_replicate.1 e1).2, (Array.mem_replicate.1 e2).2]
    exact undef_rel
  · obtain ⟨rfl, d, T, f, e⟩ := bet0_inv e
    exact lt_of_heap e
end Go.Proofs.Ytdlgjhngndpgoaa
