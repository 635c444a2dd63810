/- Several texts in one: MFr, CoR, CoQ, FrA, FrB, FrC, FrC1, FrC2, FrC3. -/
import Derived.Test.YtdlgjhngndpgoaaQ16
import Derived.Test.YtdlgjhngndpgoaaQ17
import Derived.Test.YtdlgjhngndpgoaaQ09
import Derived.Test.YtdlgjhngndpgoaaQ23
import Derived.Test.YtdlgjhngndpgoaaQ30
import Derived.Test.YtdlgjhngndpgoaaQ32
import Derived.Test.YtdlgjhngndpgoaaQ34
namespace Go.Proofs.Ytdlgjhngndpgoaa
set_option linter.unusedVariables false
set_option linter.unusedSimpArgs false
def pm : Nat → List Int
  | 0 => [0, 1, 2]
  | 1 => [0, 2, 1]
  | 2 => [1, 0, 2]
  | 3 => [1, 2, 0]
  | 4 => [2, 0, 1]
  | _ => [2, 1, 0]
theorem next_of {xs ys : List Int} {i : Nat} (h : permOk xs = true) (hu : upAt xs = some i)
    (hc : ∀ k a b, i < k → xs[i]? = some a → xs[k]? = some b → a < b → (∀ (j : Nat) (y : Int), k < j → xs[j]? = some y → y < a) → nextL (xs.take i) a ((xs.take k).drop (i + 1)) b (xs.drop (k + 1)) = ys) : nextV xs = ys := by
  obtain ⟨k, a, b, hN⟩ := nextI h hu
  rw [nextV_some h hu hN]
  exact hc k a b hN.ik hN.ha hN.hb hN.nx.lt hN.low
theorem nx0 : nextV (pm 0) = pm 1 := by
  refine next_of (xs := [0, 1, 2]) (i := 1) (by decide) (by decide) fun k a b h1 h2 h3 h5 h4 => ?_
  simp at h2
  subst h2
  rcases k with _ | _ | _ | k
  · omega
  · omega
  · simp at h3; subst h3; rfl
  · simp at h3
theorem nx1 : nextV (pm 1) = pm 2 := by
  refine next_of (xs := [0, 2, 1]) (i := 0) (by decide) (by decide) fun k a b h1 h2 h3 h5 h4 => ?_
  simp at h2
  subst h2
  rcases k with _ | _ | _ | k
  · omega
  · have := h4 2 1 (by omega) rfl; omega
  · simp at h3; subst h3; rfl
  · simp at h3
theorem nx2 : nextV (pm 2) = pm 3 := by
  refine next_of (xs := [1, 0, 2]) (i := 1) (by decide) (by decide) fun k a b h1 h2 h3 h5 h4 => ?_
  simp at h2
  subst h2
  rcases k with _ | _ | _ | k
  · omega
  · omega
  · simp at h3; subst h3; rfl
  · simp at h3
theorem nx3 : nextV (pm 3) = pm 4 := by
  refine next_of (xs := [1, 2, 0]) (i := 0) (by decide) (by decide) fun k a b h1 h2 h3 h5 h4 => ?_
  simp at h2
  subst h2
  rcases k with _ | _ | _ | k
  · omega
  · simp at h3; subst h3; rfl
  · exfalso
    simp at h3
    omega
  · simp at h3
theorem nx4 : nextV (pm 4) = pm 5 := by
  refine next_of (xs := [2, 0, 1]) (i := 1) (by decide) (by decide) fun k a b h1 h2 h3 h5 h4 => ?_
  simp at h2
  subst h2
  rcases k with _ | _ | _ | k
  · omega
  · omega
  · simp at h3; subst h3; rfl
  · simp at h3
theorem nb : ∀ k, k < 5 → nextB (pm k) = true := by decide
theorem nb5 : nextB (pm 5) = false := by decide
end Go.Proofs.Ytdlgjhngndpgoaa
namespace Go.Proofs.Ytdlgjhngndpgoaa
open Go.Conc
set_option linter.unusedVariables false
set_option linter.unusedSimpArgs false
section
variable {P : Program} {c : Nat} {z : Value} {ι : Type} {V : ι → Value → Nat → World → Prop} {Fin Fin' : Set_ → Goroutine → World → Prop} {Post : Value → World → Prop}
theorem mstop_mono (h : ∀ O g w, Fin O g w → Fin' O g w) : ∀ (rs : List ι) O g w, MStop P c z V Fin rs O g w → MStop P c z V Fin' rs O g w
  | [], O, g, w, k => ⟨k.1, fun w2 hr => h _ _ _ (k.2 w2 hr)⟩
  | r :: rs, O, g, w, k => ⟨k.1, fun w2 x b hr hb hV => (k.2 w2 x b hr hb hV).mono (mstop_mono h rs)⟩
theorem atgo_mono (h : ∀ O g w, Fin O g w → Fin' O g w) {O : Set_} {g : Goroutine} {w : World} (k : AtGo_ P c Fin O g w) : AtGo_ P c Fin' O g w := by
  obtain ⟨k1, g', child, ι, V, rs, z, k2, k3, k4, k5⟩ := k
  exact ⟨k1, g', child, ι, V, rs, z, k2, k3, k4.mono (mstop_mono h rs), k5⟩
theorem atmk_mono (h : ∀ O g w, Fin O g w → Fin' O g w) {O : Set_} {g : Goroutine} {w : World} (k : AtMk_ P Fin O g w) : AtMk_ P Fin' O g w := by
  obtain ⟨k1, g', k2, O', k3, k4⟩ := k
  exact ⟨k1, g', k2, O', k3, k4.mono fun _ _ _ => atgo_mono h⟩
theorem scrS_mono (O : Set_) (g : Goroutine) (w : World) (h : ScrS P Post 0 O g w) : ScrS P Post 1 O g w :=
  h.imp id (atmk_mono fun _ _ _ k => Co.mono (Stop := fun _ g w => AtEnd_ P Post g w) k fun _ _ _ => .inl)
theorem offs_scr (kk : Nat) : Offs (ScrS P Post kk) := fun O g w of h => h.imp (fun h => h) fun h => h
theorem offs_end : Offs (fun _ g w => AtEnd_ P Post g w) := fun O g w of h => h
end
end Go.Proofs.Ytdlgjhngndpgoaa
namespace Go.Proofs.Ytdlgjhngndpgoaa
open Go.Conc
set_option linter.unusedVariables false
set_option linter.unusedSimpArgs false
section
variable {P : Program} {L : Lim} {Stop : Set_ → Goroutine → World → Prop} {A : An} {b : Frame} {Φ : Act → World → Prop} {Post : Value → World → Prop}
theorem stepG_done {fn : Func} {a : Act} {todo : List Item} {v : Value} {w : World} (hn : b.kind = .normal) (hi : P.inits.idxOf? b.fn = none) (hd : a.defers = []) (hf : P.funcs[b.fn]? = some fn) (hr : ∀ u es, (results fn a.tmps).runT P u es = (.ok v u, es)) :
    stepG P true (G { b.at a todo with mode := .returning } []) w = .ended (.done v) w #[] := by
  have hh := hr w #[]
  simp only [G, stepG, unwind, Frame.at, hd, hf, hh, doReturn, hn, GStep.after, seen_nil, hi, Bool.not_true, Bool.false_eq_true, if_false]
  rfl
theorem WkR.done {fn : Func} (hb : b.kind = .normal) (hi : P.inits.idxOf? b.fn = none) (hf : P.funcs[b.fn]? = some fn) (hT : TmpRes fn) (hStop : ∀ O g w, AtEnd_ P Post g w → Stop O g w) {R : Value → World → Prop} (hR : ∀ a v, Φ a v → ∃ x, (∀ u, (results fn a.tmps).run P u = .ok x u) ∧ R x v)
    (post : ∀ γ x y v w O, R x v → VRel L γ x y → WRel L γ v w → Named O γ → Acc A.O A.β A.v A.w O γ v w → Post y w) : WkR P L true Stop A b [] Φ := by
  intro γ ag a v w O todo hp k2 k3 k4 k5 k6 k7
  obtain ⟨x, hx, hq⟩ := hR _ _ hp
  obtain ⟨y, hy⟩ := tmpRes_run (P := P) hT a.tmps
  refine .stop fun w1 hr1 => hStop _ _ _ ⟨rfl, y, stepG_done hb hi k3 hf hy, ?_⟩
  have hW := k5.ry k6 hr1
  have hxy : VRel L γ x y := by
    have hr := (rel_results (P := P) (L := L) fn k4).run (hW.re (nextT w1) 0) (agree_next v w1)
    have e2 : (results fn a.tmps).run P w1 = .ok y w1 := by
      have := hy w1 #[]
      rw [Sem.runT_eq] at this
      exact (Prod.mk.inj this).1
    rw [hx] at hr
    obtain ⟨δ, y2, w3, q1, q2, q3, q4⟩ := hr
    rw [e2] at q1
    cases q1
    refine VRel.mono (fun k z e => ?_) q3
    rcases q2.new k z e with e | ⟨_, e2⟩
    · exact e
    · obtain ⟨o, p, h1, _⟩ := q2.rel.blk k z e
      have := lt_of_heap h1
      have h9 : (reW v (nextT w1) 0).heap.size ≤ k := e2
      omega
  exact post γ x y v w1 O hq hxy hW k6 (k7.rely hr1)
end
end Go.Proofs.Ytdlgjhngndpgoaa
namespace Go.Proofs.Ytdlgjhngndpgoaa
open Go.Conc Go.ChangeShapes Go.WideShapes Go.ChangeAt Go.RowKit
set_option linter.unusedVariables false
set_option linter.unusedSimpArgs false
set_option maxRecDepth 100000
noncomputable def bodyR : Code := Try.f3.body.getD .skip
noncomputable def pr0 : Code := match bodyR with | .seq r _ => r | _ => .skip
noncomputable def prA : Code := match bodyR with | .seq _ (.seq r _) => r | _ => .skip
noncomputable def pr3 : Code := match bodyR with | .seq _ (.seq _ (.seq r _)) => r | _ => .skip
noncomputable def pr4 : Code := match bodyR with | .seq _ (.seq _ (.seq _ (.seq r _))) => r | _ => .skip
noncomputable def pr5 : Code := match bodyR with | .seq _ (.seq _ (.seq _ (.seq _ (.seq r _)))) => r | _ => .skip
noncomputable def pr6 : Code := match bodyR with | .seq _ (.seq _ (.seq _ (.seq _ (.seq _ (.seq r _))))) => r | _ => .skip
noncomputable def pr7 : Code := match bodyR with | .seq _ (.seq _ (.seq _ (.seq _ (.seq _ (.seq _ (.seq r _)))))) => r | _ => .skip
noncomputable def pr8 : Code := match bodyR with | .seq _ (.seq _ (.seq _ (.seq _ (.seq _ (.seq _ (.seq _ (.seq r _))))))) => r | _ => .skip
noncomputable def pr9 : Code := match bodyR with | .seq _ (.seq _ (.seq _ (.seq _ (.seq _ (.seq _ (.seq _ (.seq _ (.seq r _)))))))) => r | _ => .skip
noncomputable def prL : Code := match bodyR with | .seq _ (.seq _ (.seq _ (.seq _ (.seq _ (.seq _ (.seq _ (.seq _ (.seq _ (.seq r _))))))))) => r | _ => .skip
noncomputable def pr22 : Code := match bodyR with | .seq _ (.seq _ (.seq _ (.seq _ (.seq _ (.seq _ (.seq _ (.seq _ (.seq _ (.seq _ (.seq r _)))))))))) => r | _ => .skip
noncomputable def pr10 : Code := match prL with | .seq r _ => r | _ => .skip
noncomputable def prB : Code := match prL with | .seq _ (.block _ (.loop r)) => r | _ => .skip
noncomputable def pr11 : Code := match prB with | .seq (.seq r _) _ => r | _ => .skip
noncomputable def prC : Code := match prB with | .seq _ (.seq (.block _ r) _) => r | _ => .skip
noncomputable def pr12 : Code := match prB with | .seq _ (.seq _ r) => r | _ => .skip
noncomputable def pr13 : Code := match prC with | .seq r _ => r | _ => .skip
noncomputable def pr14 : Code := match prC with | .seq _ (.seq r _) => r | _ => .skip
noncomputable def pr15 : Code := match prC with | .seq _ (.seq _ (.seq (.seq r _) _)) => r | _ => .skip
noncomputable def prF1 : Code := match prC with | .seq _ (.seq _ (.seq (.seq _ (.cond _ r _)) _)) => r | _ => .skip
noncomputable def pr17 : Code := match prC with | .seq _ (.seq _ (.seq _ (.seq r _))) => r | _ => .skip
noncomputable def pr18 : Code := match prC with | .seq _ (.seq _ (.seq _ (.seq _ (.seq (.seq r _) _)))) => r | _ => .skip
noncomputable def prF2 : Code := match prC with | .seq _ (.seq _ (.seq _ (.seq _ (.seq (.seq _ (.cond _ r _)) _)))) => r | _ => .skip
noncomputable def pr20 : Code := match prC with | .seq _ (.seq _ (.seq _ (.seq _ (.seq _ (.seq r _))))) => r | _ => .skip
noncomputable def pr21 : Code := match prC with | .seq _ (.seq _ (.seq _ (.seq _ (.seq _ (.seq _ (.cond _ r _)))))) => r | _ => .skip
theorem bodyR_eq : bodyR = .seq pr0 (.seq prA (.seq pr3 (.seq pr4 (.seq pr5 (.seq pr6 (.seq pr7 (.seq pr8 (.seq pr9 (.seq prL (.seq pr22 .ret)))))))))) := by simp only [pr0, prA, pr3, pr4, pr5, pr6, pr7, pr8, pr9, prL, pr22, bodyR, Try.f3, Option.getD_some]
theorem prL_eq : prL = .seq pr10 (.block 0 (.loop prB)) := by simp only [pr10, prB, prL, bodyR, Try.f3, Option.getD_some]
theorem prB_eq : prB = .seq (.seq pr11 (.cond (.tmp 33) .skip (.exit 0))) (.seq (.block 1 prC) pr12) := by simp only [pr11, pr12, prC, prB, prL, bodyR, Try.f3, Option.getD_some]
theorem prC_eq : prC = .seq pr13 (.seq pr14 (.seq (.seq pr15 (.cond (.tmp 69) prF1 .skip)) (.seq pr17 (.seq (.seq pr18 (.cond (.tmp 78) prF2 .skip)) (.seq pr20 (.cond (.tmp 79) pr21 .skip)))))) := by simp only [pr13, pr14, pr15, pr17, pr18, pr20, pr21, prF1, prF2, prC, prB, prL, bodyR, Try.f3, Option.getD_some]
set_option maxHeartbeats 1000000 in
/-- A slot. -/
def gv (T : Array Value) (i : Nat) : Value := (T[i]?).getD undef
theorem gv_of {T : Array Value} {i : Nat} {v : Value} (h : T[i]? = some v) : gv T i = v := by unfold gv; rw [h]; rfl
theorem gv_row {T : Array Value} {n : Nat} (h : T.size = n) : T.toList = (List.range n).map (gv T) := by
  refine List.ext_getElem? fun i => ?_
  rw [List.getElem?_map, Array.getElem?_toList]
  rcases Nat.lt_or_ge i n with hi | hi
  · rw [List.getElem?_range hi, Option.map_some]
    unfold gv
    rw [Array.getElem?_eq_getElem (by omega)]
    rfl
  · rw [List.getElem?_eq_none (by simpa using hi), Array.getElem?_eq_none (by omega)]
    rfl
theorem lit107 {T : Array Value} (h : T.size = 107) : T = #[gv T 0, gv T 1, gv T 2, gv T 3, gv T 4, gv T 5, gv T 6, gv T 7, gv T 8, gv T 9, gv T 10, gv T 11, gv T 12, gv T 13, gv T 14, gv T 15, gv T 16, gv T 17, gv T 18, gv T 19, gv T 20, gv T 21, gv T 22, gv T 23, gv T 24, gv T 25, gv T 26, gv T 27, gv T 28, gv T 29, gv T 30, gv T 31, gv T 32, gv T 33, gv T 34, gv T 35, gv T 36, gv T 37, gv T 38, gv T 39, gv T 40, gv T 41, gv T 42, gv T 43, gv T 44, gv T 45, gv T 46, gv T 47, gv T 48, gv T 49, gv T 50, gv T 51, gv T 52, gv T 53, gv T 54, gv T 55, gv T 56, gv T 57, gv T 58, gv T 59, gv T 60, gv T 61, gv T 62, gv T 63, gv T 64, gv T 65, gv T 66, gv T 67, gv T 68, gv T 69, gv T 70, gv T 71, gv T 72, gv T 73, gv T 74, gv T 75, gv T 76, gv T 77, gv T 78, gv T 79, gv T 80, gv T 81, gv T 82, gv T 83, gv T 84, gv T 85, gv T 86, gv T 87, gv T 88, gv T 89, gv T 90, gv T 91, gv T 92, gv T 93, gv T 94, gv T 95, gv T 96, gv T 97, gv T 98, gv T 99, gv T 100, gv T 101, gv T 102, gv T 103, gv T 104, gv T 105, gv T 106] := Array.ext' ((gv_row h).trans rfl)
def litR (x0 : Value) : Act := { tmps := #[x0, undef, undef, undef, undef, undef, undef, undef, undef, undef, undef, undef, undef, undef, undef, undef, undef, undef, undef, undef, undef, undef, undef, undef, undef, undef, undef, undef, undef, undef, undef, undef, undef, undef, undef, undef, undef, undef, undef, undef, undef, undef, undef, undef, undef, undef, undef, undef, undef, undef, undef, undef, undef, undef, undef, undef, undef, undef, undef, undef, undef, undef, undef, undef, undef, undef, undef, undef, undef, undef, undef, undef, undef, undef, undef, undef, undef, undef, undef, undef, undef, undef, undef, undef, undef, undef, undef, undef, undef, undef, undef, undef, undef, undef, undef, undef, undef, undef, undef, undef, undef, undef, undef, undef, undef, undef, undef], defers := [] }
theorem litR_eq (x : Value) : (litR x).tmps = #[x] ++ Array.replicate 106 undef := by
  apply Array.ext'
  rw [Array.toList_append, Array.toList_replicate]
  rfl
def SbR (s : Sy) (a : Act) (v : World) : Prop := ∃ q A n c B m d, a.tmps[4]? = some (Value.pointer (some ⟨q, 0, none⟩)) ∧ v.cell? ⟨q, 0, none⟩ = some (.slice A n c) ∧ v.cell? ⟨q, 1, none⟩ = some (.slice B m d) ∧ RI v A n s.ar ∧ RR true v B m s.rs
def RkO (i j : Nat) (o : Option (List Int)) (a : Act) (v : World) : Prop := ∃ A n c, a.tmps[i]? = some (Value.slice A n c) ∧ a.tmps[j]? = some (.bool o.isSome) ∧ RI v A n (o.getD [])
section
variable {s : Sy} {a : Act} {v v' : World} {i j : Nat} {o : Option (List Int)}
theorem RI.hx {w w' : World} {A : Option Addr} {n : Nat} {xs : List Int} (h : RI w A n xs) (k : Hx w w') : RI w' A n xs := RI.ext (w := { w' with heap := w.heap }) h k.to
theorem RR.hx {w w' : World} {b : Bool} {A : Option Addr} {n : Nat} {rs : List Ru} (h : RR b w A n rs) (k : Hx w w') : RR b w' A n rs := RR.ext (w := { w' with heap := w.heap }) h k.to
theorem Hx.keep {w w' : World} (k : Hx w w') {p : Addr} {x : Value} (h : w.cell? p = some x) : w'.cell? p = some x := Ext.keep k.to h
theorem SbR.hx (h : SbR s a v) (k : Hx v v') : SbR s a v' := by
  obtain ⟨q, A, n, c, B, m, d, h1, h2, h3, h4, h5⟩ := h
  exact ⟨q, A, n, c, B, m, d, h1, k.keep h2, k.keep h3, h4.hx k, h5.hx k⟩
theorem SbR.put {t : Nat} {x : Value} (h : SbR s a v) (h1 : t ≠ 4) : SbR s (a.put (some t) x) v := by
  obtain ⟨q, A, n, c, B, m, d, h1', h2⟩ := h
  exact ⟨q, A, n, c, B, m, d, by rw [put_get, if_neg h1, h1'], h2⟩
theorem RkO.hx (h : RkO i j o a v) (k : Hx v v') : RkO i j o a v' := by
  obtain ⟨A, n, c, h1, h2, h3⟩ := h
  exact ⟨A, n, c, h1, h2, h3.hx k⟩
theorem RkO.put {t : Nat} {x : Value} (h : RkO i j o a v) (h1 : t ≠ i) (h2 : t ≠ j) : RkO i j o (a.put (some t) x) v := by
  obtain ⟨A, n, c, k1, k2, k3⟩ := h
  exact ⟨A, n, c, by rw [put_get, if_neg h1, k1], by rw [put_get, if_neg h2, k2], k3⟩
end
def Lg (v0 : World) (s : Sy) (a : Act) (v : World) : Prop := a.tmps.size = 107 ∧ Hx v0 v ∧ (SysP s ∧ s.ar = [2, 1, 0]) ∧ SbR s a v
def Rr (v0 : World) (a : Act) (v : World) : Prop := a.tmps.size = 107 ∧ a.tmps[2]? = some (.bool true) ∧ Hx v0 v
theorem wpS_cons {P : Program} {c : Code} {cs : List Code} {Q : Exit → Act → World → Prop} {a : Act} {w : World} (h : c.wp P (Exit.then (wpS P cs Q) Q) a w) : wpS P (c :: cs) Q a w := h
theorem wpS_nil {P : Program} {Q : Exit → Act → World → Prop} {a : Act} {w : World} (h : Q .normal a w) : wpS P [] Q a w := h
set_option maxHeartbeats 4000000 in
theorem chunkR {v0 w : World} {n0 : Nat} {x : Value} (hH : Hx v0 w) (h0 : RawBy v0 x n0) :
    wpS Try.prog [pr0, prA, pr3, pr4] (fun e a' v' => (e = .normal ∧ ∃ rs, Lg v0 ⟨[2, 1, 0], rs⟩ a' v') ∨ (e = .ret ∧ Rr v0 a' v')) (litR x) w := by
  have H0 := Lib.hid (show RawBy w x n0 from RawBy.ext (w := { w with heap := v0.heap }) h0 hH.to)
  have HH := Lib.hid hH
  obtain ⟨bb, hbb⟩ : ∃ bb, decide (4096 < n0) = bb := ⟨_, rfl⟩
  have HBB := Lib.hid hbb
  clear h0 hbb hH
  refine wpS_cons ?_
  simp only [pr0, bodyR, Try.f3, Option.getD_some, litR]
  go_wp2_with fail
  refine wpS_cons ?_
  simp only [prA, bodyR, Try.f3, Option.getD_some]
  go_wp2_with fail
  (with_reducible refine (c_big HBB.out H0.out).mono ?_)
  rintro e w1 ⟨rfl, hE1⟩
  cases bb with
  | true =>
    go_wp2_with fail
    exact .inr ⟨trivial, rfl, rfl, HH.out.trans (Hx.ext hE1)⟩
  | false =>
    have hx : n0 ≤ 4096 := by have := HBB.out; simpa using this
    have H1 := Lib.hid (H0.out.ext hE1)
    go_wp2_with fail
    refine wpS_cons ?_
    simp only [pr3, bodyR, Try.f3, Option.getD_some]
    go_wp2_with fail
    (with_reducible refine (c_roll H1.out hx).mono ?_)
    rintro e w2 ⟨g, rfl, hD2, hg2, hE2⟩
    have hE02 : Ext w w2 := Ext.trans hE1 hE2
    have hgw : w.heap.size ≤ g := by have := hE1.size; omega
    have hgl := hD2.lt
    go_wp2_with fail
    refine wpS_cons ?_
    simp only [pr4, bodyR, Try.f3, Option.getD_some]
    go_wp2_with fail
    (with_reducible refine (c_w9System hD2).mono ?_)
    rintro e w3 ⟨AS, cS, B, m, d, rs, rfl, hS3, hR3, hl3, hG3, hD3, hO3⟩
    have hs3 := hO3.size
    have HY4 := Lib.hid (SysAt.mk' (c := cS) (d := d) (v := .bool true) hS3 hR3 hs3)
    have HSY := Lib.hid (show SysP ⟨[2, 1, 0], rs⟩ from good_sys hl3 hG3)
    have hE03 : Ext w w3 := hO3.ext hE02 hgw
    obtain ⟨w4, hw4⟩ : ∃ w4, w4 = w3.alloc (.cells #[.slice AS 3 cS, .slice B m d] 32) := ⟨_, rfl⟩
    rw [← hw4] at HY4
    have hE34 : Ext w3 w4 := by rw [hw4]; exact extX
    have hE04 := Ext.trans hE03 hE34
    clear hS3 hR3 hD3 hO3 hG3
    go_wp2_with fail
    rw [← hw4]
    clear hw4
    refine wpS_nil ?_
    obtain ⟨A', n', c', B', m', d', e', h1', h2'⟩ := HY4.out.rd
    cases e'
    exact .inl ⟨rfl, rs, rfl, HH.out.trans (Hx.ext hE04), ⟨HSY.out, rfl⟩, w3.heap.size, AS, 3, cS, B, m, d, rfl, HY4.out.c0, HY4.out.c1, h1', h2'⟩
end Go.Proofs.Ytdlgjhngndpgoaa
namespace Go.Proofs.Ytdlgjhngndpgoaa
open Go.Conc Go.RowKit
set_option linter.unusedVariables false
set_option linter.unusedSimpArgs false
set_option maxRecDepth 100000
section
variable {v0 v v' : World} {s : Sy} {a : Act} {t : Nat} {x : Value}
theorem Lg.sz (h : Lg v0 s a v) : a.tmps.size = 107 := h.1
theorem Lg.sb (h : Lg v0 s a v) : SbR s a v := h.2.2.2
theorem Lg.hx (h : Lg v0 s a v) (k : Hx v v') : Lg v0 s a v' := ⟨h.1, h.2.1.trans k, h.2.2.1, h.2.2.2.hx k⟩
theorem Lg.put (h : Lg v0 s a v) (h1 : t ≠ 4) : Lg v0 s (a.put (some t) x) v := ⟨by rw [put_size, h.1], h.2.1, h.2.2.1, h.2.2.2.put h1⟩
def Lh (v0 : World) (s : Sy) (a : Act) (v : World) : Prop := Lg v0 s a v ∧ RkO 5 6 (ansF true s) a v
def Li (v0 : World) (s : Sy) (a : Act) (v : World) : Prop := Lh v0 s a v ∧ RkO 7 8 (ansF false s) a v
theorem Lh.sz (h : Lh v0 s a v) : a.tmps.size = 107 := h.1.1
theorem Lh.sb (h : Lh v0 s a v) : SbR s a v := h.1.sb
theorem Lh.hx (h : Lh v0 s a v) (k : Hx v v') : Lh v0 s a v' := ⟨h.1.hx k, h.2.hx k⟩
theorem Lh.put (h : Lh v0 s a v) (h1 : t ≠ 4) (h2 : t ≠ 5) (h3 : t ≠ 6) : Lh v0 s (a.put (some t) x) v := ⟨h.1.put h1, h.2.put h2 h3⟩
def RiR (x y : Value) (o : Option (List Int)) (v : World) : Prop := ∃ A n c, x = .slice A n c ∧ y = .bool o.isSome ∧ RI v A n (o.getD [])
theorem resF_ri {B : Nat} {x y : Value} {o : Option (List Int)} (h : ResF B o (.tuple #[x, y]) v) : RiR x y o v := by
  cases o with
  | none =>
    have h : Value.tuple #[x, y] = .tuple #[.slice none 0 0, .bool false] := h
    injection h with h
    injection h with h
    injection h with h1 h2
    injection h2 with h2
    exact ⟨none, 0, 0, h1, h2, RI.nil _ _⟩
  | some us =>
    obtain ⟨b, n, cp, h, h2⟩ := h
    injection h with h
    injection h with h
    injection h with h1 h3
    injection h3 with h3
    exact ⟨some ⟨b, 0, none⟩, n, cp, h1, h3, h2.ri⟩
end
theorem run_ldR (a : Act) (w : World) (o : Oper) (q n c m d : Nat) (A B : Option Addr) (hop : o.op = .load 32 (.tmp 4)) (hx : a.eval (.tmp 4) = .pointer (some ⟨q, 0, none⟩)) (h : w.cell? ⟨q, 0, none⟩ = some (.slice A n c)) (h1 : w.cell? ⟨q, 1, none⟩ = some (.slice B m d)) : (execOp a.eval o).run Try.prog w = .ok (.value (.agg #[.slice A n c, .slice B m d])) w := by
  simp only [Act.eval, Array.getD_eq_getD_getElem?] at hx
  unfold execOp
  simp only [hop]
  simp [go_sem, hx, h, h1]
theorem bRe : (base 3).kind ≠ .early := by simp [base]
theorem bR : (base 3).kind = .normal := rfl
section
variable {m : Nat} {A : An} {Post : Value → World → Prop} {K : Nat} {StA : Set_ → Goroutine → World → Prop} {s : Sy} {k : List Item}
theorem call5 (hSo : Offs StA) (hoS : Offs (ScrS Try.prog Post K)) (hK : Script_ Try.prog Post K = Co Try.prog true StA) (hmono : ∀ O g w, StA O g w → ScrS Try.prog Post K O g w)
    (hn : Wk Try.prog (LM m) true StA A (base 3) [] k (Lh A.v s)) : Wk Try.prog (LM m) true (ScrS Try.prog Post K) A (base 3) [] (.code pr5 :: k) (Lg A.v s) := by
  simp only [pr5, bodyR, Try.f3, Option.getD_some]
  refine Wk.reg (l := [0, 1, 2, 3, 4, 5, 6]) rfl ?_
  refine Wk.op (X m) bRe rfl (d := some 22) rfl (xtmp (m := m) 4) (fun a v τ d h => h) (Ψ := fun a v => Lg A.v s a v ∧ ∃ A5 n5 c5 B5 m5 d5, a.tmps[22]? = some (Value.agg #[Value.slice A5 n5 c5, Value.slice B5 m5 d5]) ∧ RI v A5 n5 s.ar ∧ RR true v B5 m5 s.rs) (fun a v h _ => ?_) ?_
  · have h' := h
    obtain ⟨q, A5, n5, c5, B5, m5, d5, k1, k2, k3, k4, k5⟩ := h.sb
    exact ⟨by rfl, .inl ⟨_, _, run_ldR a v _ q _ _ _ _ _ _ rfl (eval_tmp k1) k2 k3, h'.put (by decide), A5, n5, c5, B5, m5, d5, by rw [put_get, if_pos rfl, if_pos (by rw [h.sz]; decide)], k4, k5⟩⟩
  intro γ ag a v w O hp k2 k3 k4 k5 k6 k7
  obtain ⟨hLa, A5, n5, c5, B5, m5, d5, h28, hri, hrr⟩ := hp
  refine co_into bRe rfl rfl rfl Try.func9 (by rfl) (c := bodyQ) rfl (fun x hx => by simp at hx; subst hx; exact trivial) k2 k3 k4 k5 k6 ?_
  refine (fr_wk (A := ⟨O, γ, v, w⟩) (s := s) hSo hoS hK hmono ?_).mono fun a' v' h => ?_
  · intro γ2 x y v2 w2 O2 hout hxy hW2 hN2 hA2
    rw [Frame.finish_at]
    obtain ⟨y0, y1, rfl⟩ := hout.pair
    have hH := hout.1
    have hO7 := resF_ri hout.2
    have hz := hLa.sz
    have hLa2 := (hLa.hx hH)
    refine Wk.use (Φ := fun a v' => Lg A.v s a v' ∧ a.tmps[23]? = some (.tuple #[y0, y1]) ∧ RiR y0 y1 (ansF true s) v') (ag := ag.put (some 23) (.tuple #[y0, y1])) ⟨hLa2.put (by decide), by rw [put_get, if_pos rfl, if_pos (by rw [hz]; decide)], hO7⟩ (by rw [put_defers, k2]) (by rw [put_defers, k3]) ((k4.mono hA2.le).put _ hxy) hW2 hN2 (k7.trans hA2) ?_
    clear hLa2 hout hxy hO7 hH
    refine Wk.mv (X m) bRe rfl (.inl rfl) rfl (d := some 21) rfl (xtmp 23) (Ψ := fun a v' => Lg A.v s a v' ∧ a.tmps[21]? = some (.tuple #[y0, y1]) ∧ RiR y0 y1 (ansF true s) v') (fun a v h => ⟨h.1.put (by decide), by rw [put_get, if_pos rfl, if_pos (by rw [h.1.sz]; decide), eval_tmp h.2.1], h.2.2⟩) ?_
    refine Wk.op (X m) bRe rfl (d := some 24) rfl (xtmp (m := m) 21) (fun a v τ d h => h) (Ψ := fun a v' => (Lg A.v s a v' ∧ a.tmps[21]? = some (.tuple #[y0, y1]) ∧ RiR y0 y1 (ansF true s) v') ∧ a.tmps[24]? = some y0) (fun a v h _ => ⟨by rfl, .inl ⟨_, _, run_ex7 a v _ y0 y1 0 21 rfl (eval_tmp h.2.1) (by decide), ⟨h.1.put (by decide), by rw [put_get, if_neg (by decide), h.2.1], h.2.2⟩, by rw [put_get, if_pos rfl, if_pos (by rw [h.1.sz]; decide)]; rfl⟩⟩) ?_
    refine Wk.op (X m) bRe rfl (d := some 25) rfl (xtmp (m := m) 21) (fun a v τ d h => h) (Ψ := fun a v' => (Lg A.v s a v' ∧ RiR y0 y1 (ansF true s) v') ∧ a.tmps[24]? = some y0 ∧ a.tmps[25]? = some y1) (fun a v h _ => ⟨by rfl, .inl ⟨_, _, run_ex7 a v _ y0 y1 1 21 rfl (eval_tmp h.1.2.1) (by decide), ⟨h.1.1.put (by decide), h.1.2.2⟩, by rw [put_get, if_neg (by decide), h.2], by rw [put_get, if_pos rfl, if_pos (by rw [h.1.1.sz]; decide)]; rfl⟩⟩) ?_
    refine Wk.mv (X m) bRe rfl (.inr rfl) rfl (d := some 5) rfl (xtmp 24) (Ψ := fun a v' => (Lg A.v s a v' ∧ RiR y0 y1 (ansF true s) v') ∧ a.tmps[5]? = some y0 ∧ a.tmps[25]? = some y1) (fun a v h => ⟨⟨h.1.1.put (by decide), h.1.2⟩, by rw [put_get, if_pos rfl, if_pos (by rw [h.1.1.sz]; decide), eval_tmp h.2.1], by rw [put_get, if_neg (by decide), h.2.2]⟩) ?_
    refine Wk.mv (X m) bRe rfl (.inr rfl) rfl (d := some 6) rfl (xtmp 25) (Ψ := Lh A.v s) (fun a v' h => ⟨h.1.1.put (by decide), ?_⟩) (Wk.regionEnd hn)
    obtain ⟨A7, n7, c7, e1, e2, e3⟩ := h.1.2
    exact ⟨A7, n7, c7, by rw [put_get, if_neg (by decide), h.2.1, e1], by rw [put_get, if_pos rfl, if_pos (by rw [h.1.1.sz]; decide), eval_tmp h.2.2, e2], e3⟩
  · obtain ⟨rfl, rfl⟩ := h
    refine ⟨A5, n5, c5, B5, m5, d5, ?_, hri, hrr, Hx.refl _⟩
    have e : (#[Operand.tmp 22].map ag.eval) = #[.agg #[.slice A5 n5 c5, .slice B5 m5 d5]] := by simp [eval_tmp h28]
    show Act.mk (_ ++ _) [] = _
    rw [e]
    simp [litQ, Try.ntmps9]
theorem call6 (hSo : Offs StA) (hoS : Offs (ScrS Try.prog Post K)) (hK : Script_ Try.prog Post K = Co Try.prog true StA) (hmono : ∀ O g w, StA O g w → ScrS Try.prog Post K O g w)
    (hn : Wk Try.prog (LM m) true StA A (base 3) [] k (Li A.v s)) : Wk Try.prog (LM m) true (ScrS Try.prog Post K) A (base 3) [] (.code pr6 :: k) (Lh A.v s) := by
  simp only [pr6, bodyR, Try.f3, Option.getD_some]
  refine Wk.reg (l := [0, 1, 2, 3, 4, 5, 6]) rfl ?_
  refine Wk.op (X m) bRe rfl (d := some 27) rfl (xtmp (m := m) 4) (fun a v τ d h => h) (Ψ := fun a v => Lh A.v s a v ∧ ∃ A5 n5 c5 B5 m5 d5, a.tmps[27]? = some (Value.agg #[Value.slice A5 n5 c5, Value.slice B5 m5 d5]) ∧ RI v A5 n5 s.ar ∧ RR true v B5 m5 s.rs) (fun a v h _ => ?_) ?_
  · have h' := h
    obtain ⟨q, A5, n5, c5, B5, m5, d5, k1, k2, k3, k4, k5⟩ := h.sb
    exact ⟨by rfl, .inl ⟨_, _, run_ldR a v _ q _ _ _ _ _ _ rfl (eval_tmp k1) k2 k3, h'.put (by decide) (by decide) (by decide), A5, n5, c5, B5, m5, d5, by rw [put_get, if_pos rfl, if_pos (by rw [h.sz]; decide)], k4, k5⟩⟩
  intro γ ag a v w O hp k2 k3 k4 k5 k6 k7
  obtain ⟨hLa, A5, n5, c5, B5, m5, d5, h28, hri, hrr⟩ := hp
  refine co_into bRe rfl rfl rfl Try.func10 (by rfl) (c := bodyQB) rfl (fun x hx => by simp at hx; subst hx; exact trivial) k2 k3 k4 k5 k6 ?_
  refine (fr_wkB (A := ⟨O, γ, v, w⟩) (s := s) hSo hoS hK hmono ?_).mono fun a' v' h => ?_
  · intro γ2 x y v2 w2 O2 hout hxy hW2 hN2 hA2
    rw [Frame.finish_at]
    obtain ⟨y0, y1, rfl⟩ := hout.pair
    have hH := hout.1
    have hO7 := resF_ri hout.2
    have hz := hLa.sz
    have hLa2 := (hLa.hx hH)
    refine Wk.use (Φ := fun a v' => Lh A.v s a v' ∧ a.tmps[28]? = some (.tuple #[y0, y1]) ∧ RiR y0 y1 (ansF false s) v') (ag := ag.put (some 28) (.tuple #[y0, y1])) ⟨hLa2.put (by decide) (by decide) (by decide), by rw [put_get, if_pos rfl, if_pos (by rw [hz]; decide)], hO7⟩ (by rw [put_defers, k2]) (by rw [put_defers, k3]) ((k4.mono hA2.le).put _ hxy) hW2 hN2 (k7.trans hA2) ?_
    clear hLa2 hout hxy hO7 hH
    refine Wk.mv (X m) bRe rfl (.inl rfl) rfl (d := some 26) rfl (xtmp 28) (Ψ := fun a v' => Lh A.v s a v' ∧ a.tmps[26]? = some (.tuple #[y0, y1]) ∧ RiR y0 y1 (ansF false s) v') (fun a v h => ⟨h.1.put (by decide) (by decide) (by decide), by rw [put_get, if_pos rfl, if_pos (by rw [h.1.sz]; decide), eval_tmp h.2.1], h.2.2⟩) ?_
    refine Wk.op (X m) bRe rfl (d := some 29) rfl (xtmp (m := m) 26) (fun a v τ d h => h) (Ψ := fun a v' => (Lh A.v s a v' ∧ a.tmps[26]? = some (.tuple #[y0, y1]) ∧ RiR y0 y1 (ansF false s) v') ∧ a.tmps[29]? = some y0) (fun a v h _ => ⟨by rfl, .inl ⟨_, _, run_ex7 a v _ y0 y1 0 26 rfl (eval_tmp h.2.1) (by decide), ⟨h.1.put (by decide) (by decide) (by decide), by rw [put_get, if_neg (by decide), h.2.1], h.2.2⟩, by rw [put_get, if_pos rfl, if_pos (by rw [h.1.sz]; decide)]; rfl⟩⟩) ?_
    refine Wk.op (X m) bRe rfl (d := some 30) rfl (xtmp (m := m) 26) (fun a v τ d h => h) (Ψ := fun a v' => (Lh A.v s a v' ∧ RiR y0 y1 (ansF false s) v') ∧ a.tmps[29]? = some y0 ∧ a.tmps[30]? = some y1) (fun a v h _ => ⟨by rfl, .inl ⟨_, _, run_ex7 a v _ y0 y1 1 26 rfl (eval_tmp h.1.2.1) (by decide), ⟨h.1.1.put (by decide) (by decide) (by decide), h.1.2.2⟩, by rw [put_get, if_neg (by decide), h.2], by rw [put_get, if_pos rfl, if_pos (by rw [h.1.1.sz]; decide)]; rfl⟩⟩) ?_
    refine Wk.mv (X m) bRe rfl (.inr rfl) rfl (d := some 7) rfl (xtmp 29) (Ψ := fun a v' => (Lh A.v s a v' ∧ RiR y0 y1 (ansF false s) v') ∧ a.tmps[7]? = some y0 ∧ a.tmps[30]? = some y1) (fun a v h => ⟨⟨h.1.1.put (by decide) (by decide) (by decide), h.1.2⟩, by rw [put_get, if_pos rfl, if_pos (by rw [h.1.1.sz]; decide), eval_tmp h.2.1], by rw [put_get, if_neg (by decide), h.2.2]⟩) ?_
    refine Wk.mv (X m) bRe rfl (.inr rfl) rfl (d := some 8) rfl (xtmp 30) (Ψ := Li A.v s) (fun a v' h => ⟨h.1.1.put (by decide) (by decide) (by decide), ?_⟩) (Wk.regionEnd hn)
    obtain ⟨A7, n7, c7, e1, e2, e3⟩ := h.1.2
    exact ⟨A7, n7, c7, by rw [put_get, if_neg (by decide), h.2.1, e1], by rw [put_get, if_pos rfl, if_pos (by rw [h.1.1.sz]; decide), eval_tmp h.2.2, e2], e3⟩
  · obtain ⟨rfl, rfl⟩ := h
    refine ⟨A5, n5, c5, B5, m5, d5, ?_, hri, hrr, Hx.refl _⟩
    have e : (#[Operand.tmp 27].map ag.eval) = #[.agg #[.slice A5 n5 c5, .slice B5 m5 d5]] := by simp [eval_tmp h28]
    show Act.mk (_ ++ _) [] = _
    rw [e]
    simp [litQ, Try.ntmps10]
end
end Go.Proofs.Ytdlgjhngndpgoaa
namespace Go.Proofs.Ytdlgjhngndpgoaa
open Go.Conc Go.RowKit
set_option linter.unusedVariables false
set_option linter.unusedSimpArgs false
set_option maxRecDepth 100000
def mt (o : Option (List Int)) : Nat → Bool
  | 0 => false
  | k + 1 => mt o k || decide (o = some (pm k))
def Jp (v0 : World) (s : Sy) (o1 o2 : Option (List Int)) (b1 b2 : Bool) (p : List Int) (a : Act) (v : World) : Prop :=
  (a.tmps.size = 107 ∧ Hx v0 v) ∧ SbR s a v ∧ RkO 5 6 o1 a v ∧ RkO 7 8 o2 a v ∧ (∃ A n c, a.tmps[9]? = some (Value.slice A n c) ∧ RI v A n p) ∧ a.tmps[10]? = some (.bool b1) ∧ a.tmps[11]? = some (.bool b2)
def Jr (v0 : World) (s : Sy) (o1 o2 : Option (List Int)) (k : Nat) (b1 b2 : Bool) (p : List Int) (a : Act) (v : World) : Prop :=
  Jp v0 s o1 o2 b1 b2 p a v ∧ a.tmps[12]? = some (.int .i64 k)
theorem c_sOAB {v0 v1 : Value} {s : Sy} {rk : List Int} {b : Bool} {w : World} (hb : orientsV true s rk = b) (h0 : RdSyC w v0 s) (h1 : RdI w v1 rk) :
    Calls Try.prog 12 #[v0, v1] w fun e w' => e = .returned (.bool b) ∧ Ext w w' := by subst hb; exact c_sOrientsAll h0 h1
theorem c_sOBB {v0 v1 : Value} {s : Sy} {rk : List Int} {b : Bool} {w : World} (hb : orientsV false s rk = b) (h0 : RdSyC w v0 s) (h1 : RdI w v1 rk) :
    Calls Try.prog 13 #[v0, v1] w fun e w' => e = .returned (.bool b) ∧ Ext w w' := by subst hb; exact c_sOrientsBags h0 h1
def Jn (v0 : World) (s : Sy) (o1 o2 : Option (List Int)) (k : Nat) (b1 b2 : Bool) (p : List Int) (q : List Int) (m : Bool) (a : Act) (v : World) : Prop :=
  Jr v0 s o1 o2 k b1 b2 p a v ∧ (∃ A n c, a.tmps[13]? = some (Value.slice A n c) ∧ RI v A n q) ∧ a.tmps[14]? = some (.bool m)
end Go.Proofs.Ytdlgjhngndpgoaa
namespace Go.Proofs.Ytdlgjhngndpgoaa
open Go.Conc Go.RowKit
set_option linter.unusedVariables false
set_option linter.unusedSimpArgs false
set_option maxRecDepth 100000
section
variable {v0 w : World} {s : Sy} {o1 o2 : Option (List Int)} {k : Nat} {b1 b2 : Bool} {p : List Int} {a : Act}
set_option maxHeartbeats 4000000 in
theorem chunk7 (h : Li v0 s a w) (hd : a.defers = []) : wpS Try.prog [pr7, pr8, pr9] (fun e a' v' => (e = .normal ∧ Jp v0 s (ansF true s) (ansF false s) false false (pm 0) a' v') ∨ (e = .ret ∧ False)) a w := by
  obtain ⟨⟨⟨hsz, hH, _, ⟨q, SA, sn, sc, SB, sm, sd, e4, s0, s1, hSA, hSB⟩⟩, ⟨RA, rn, rc, e5, e6, hRA⟩⟩, ⟨QA, qn, qc, e7, e8, hQA⟩⟩ := h
  obtain ⟨o1, ho1⟩ : ∃ o, o = ansF true s := ⟨_, rfl⟩
  obtain ⟨o2, ho2⟩ : ∃ o, o = ansF false s := ⟨_, rfl⟩
  rw [← ho1] at e6 hRA ⊢
  rw [← ho2] at e8 hQA ⊢
  clear ho1 ho2
  obtain ⟨i1, hi1⟩ : ∃ i, i = o1.isSome := ⟨_, rfl⟩
  obtain ⟨i2, hi2⟩ : ∃ i, i = o2.isSome := ⟨_, rfl⟩
  rw [← hi1] at e6
  rw [← hi2] at e8
  have HI1 := Lib.hid hi1
  have HI2 := Lib.hid hi2
  clear hi1 hi2
  obtain ⟨tm, df⟩ := a
  simp only at hd hsz e4 e5 e6 e7 e8
  subst hd
  have hT := lit107 hsz
  rw [gv_of e4, gv_of e5, gv_of e6, gv_of e7, gv_of e8] at hT
  rw [hT]
  clear hT e4 e5 e6 e7 e8
  have HH := Lib.hid hH
  have HSA := Lib.hid hSA
  have HSB := Lib.hid hSB
  have HRA := Lib.hid hRA
  have HQA := Lib.hid hQA
  have HP := Lib.hid (show RI (w.alloc (.cells #[.int .i64 0, .int .i64 1, .int .i64 2] 2)) (some ⟨w.heap.size, 0, none⟩) 3 (pm 0) from (OwI.fresh [0, 1, 2] (by decide)).ri)
  have hE : Ext w (w.alloc (.cells #[.int .i64 0, .int .i64 1, .int .i64 2] 2)) := (Ext.refl w).alloc _
  clear hH hSA hSB hRA hQA hsz
  refine wpS_cons ?_
  simp only [pr7, bodyR, Try.f3, Option.getD_some]
  go_wp2_with fail
  refine wpS_cons ?_
  simp only [pr8, bodyR, Try.f3, Option.getD_some]
  go_wp2_with fail
  refine wpS_cons ?_
  simp only [pr9, bodyR, Try.f3, Option.getD_some]
  go_wp2_with fail
  refine wpS_nil ?_
  exact .inl ⟨rfl, ⟨rfl, HH.out.trans (Hx.ext hE)⟩, ⟨q, SA, sn, sc, SB, sm, sd, rfl, Ext.keep hE s0, Ext.keep hE s1, HSA.out.ext hE, HSB.out.ext hE⟩, ⟨RA, rn, rc, rfl, by rw [← HI1.out]; rfl, HRA.out.ext hE⟩, ⟨QA, qn, qc, rfl, by rw [← HI2.out]; rfl, HQA.out.ext hE⟩, ⟨_, 3, 3, rfl, HP.out⟩, rfl, rfl⟩
end
end Go.Proofs.Ytdlgjhngndpgoaa
namespace Go.Proofs.Ytdlgjhngndpgoaa
open Go.Conc Go.RowKit
set_option linter.unusedVariables false
set_option linter.unusedSimpArgs false
set_option maxRecDepth 100000
section
variable {v0 w : World} {s : Sy} {o1 o2 : Option (List Int)} {k : Nat} {b1 b2 : Bool} {p : List Int} {a : Act}
set_option maxHeartbeats 4000000 in
theorem wr10 (h : Jp v0 s o1 o2 b1 b2 p a w) (hd : a.defers = []) : pr10.wp Try.prog (fun e a' v' => (e = .normal ∧ Jr v0 s o1 o2 0 b1 b2 p a' v') ∨ (e = .ret ∧ False)) a w := by
  obtain ⟨⟨hsz, hH⟩, ⟨q, SA, sn, sc, SB, sm, sd, e4, s0, s1, hSA, hSB⟩, ⟨RA, rn, rc, e5, e6, hRA⟩, ⟨QA, qn, qc, e7, e8, hQA⟩, ⟨PA, pn, pc, e9, hPA⟩, e10, e11⟩ := h
  obtain ⟨i1, hi1⟩ : ∃ i, i = o1.isSome := ⟨_, rfl⟩
  obtain ⟨i2, hi2⟩ : ∃ i, i = o2.isSome := ⟨_, rfl⟩
  rw [← hi1] at e6
  rw [← hi2] at e8
  have HI1 := Lib.hid hi1
  have HI2 := Lib.hid hi2
  clear hi1 hi2
  obtain ⟨tm, df⟩ := a
  simp only at hd hsz e4 e5 e6 e7 e8 e9 e10 e11
  subst hd
  have hT := lit107 hsz
  rw [gv_of e4, gv_of e5, gv_of e6, gv_of e7, gv_of e8, gv_of e9, gv_of e10, gv_of e11] at hT
  rw [hT]
  clear hT e4 e5 e6 e7 e8 e9 e10 e11
  have HH := Lib.hid hH
  have HSA := Lib.hid hSA
  have HSB := Lib.hid hSB
  have HRA := Lib.hid hRA
  have HQA := Lib.hid hQA
  have HPA := Lib.hid hPA
  clear hH hSA hSB hRA hQA hPA hsz
  simp only [pr10, prL, bodyR, Try.f3, Option.getD_some]
  go_wp2_with fail
  exact ⟨⟨⟨rfl, HH.out⟩, ⟨q, SA, sn, sc, SB, sm, sd, rfl, s0, s1, HSA.out, HSB.out⟩, ⟨RA, rn, rc, rfl, by rw [← HI1.out]; rfl, HRA.out⟩, ⟨QA, qn, qc, rfl, by rw [← HI2.out]; rfl, HQA.out⟩, ⟨PA, pn, pc, rfl, HPA.out⟩, rfl, rfl⟩, rfl⟩
set_option maxHeartbeats 4000000 in
theorem wr11 (h : Jr v0 s o1 o2 k b1 b2 p a w) (hd : a.defers = []) : pr11.wp Try.prog (fun e a' v' => (e = .normal ∧ Jr v0 s o1 o2 k b1 b2 p a' v' ∧ a'.tmps[33]? = some (.bool (decide (k < 6)))) ∨ (e = .ret ∧ False)) a w := by
  obtain ⟨⟨⟨hsz, hH⟩, ⟨q, SA, sn, sc, SB, sm, sd, e4, s0, s1, hSA, hSB⟩, ⟨RA, rn, rc, e5, e6, hRA⟩, ⟨QA, qn, qc, e7, e8, hQA⟩, ⟨PA, pn, pc, e9, hPA⟩, e10, e11⟩, e12⟩ := h
  obtain ⟨i1, hi1⟩ : ∃ i, i = o1.isSome := ⟨_, rfl⟩
  obtain ⟨i2, hi2⟩ : ∃ i, i = o2.isSome := ⟨_, rfl⟩
  rw [← hi1] at e6
  rw [← hi2] at e8
  have HI1 := Lib.hid hi1
  have HI2 := Lib.hid hi2
  clear hi1 hi2
  obtain ⟨tm, df⟩ := a
  simp only at hd hsz e4 e5 e6 e7 e8 e9 e10 e11 e12
  subst hd
  have hT := lit107 hsz
  rw [gv_of e4, gv_of e5, gv_of e6, gv_of e7, gv_of e8, gv_of e9, gv_of e10, gv_of e11, gv_of e12] at hT
  rw [hT]
  clear hT e4 e5 e6 e7 e8 e9 e10 e11 e12
  have HH := Lib.hid hH
  have HSA := Lib.hid hSA
  have HSB := Lib.hid hSB
  have HRA := Lib.hid hRA
  have HQA := Lib.hid hQA
  have HPA := Lib.hid hPA
  clear hH hSA hSB hRA hQA hPA hsz
  simp only [pr11, prB, prL, bodyR, Try.f3, Option.getD_some]
  have hdk : decide ((k : Int) < 6) = decide (k < 6) := by
    by_cases h : k < 6
    · rw [decide_eq_true h, decide_eq_true (by omega)]
    · rw [decide_eq_false h, decide_eq_false (by omega)]
  go_wp2_with fail
  exact ⟨⟨⟨rfl, HH.out⟩, ⟨q, SA, sn, sc, SB, sm, sd, rfl, s0, s1, HSA.out, HSB.out⟩, ⟨RA, rn, rc, rfl, by rw [← HI1.out]; rfl, HRA.out⟩, ⟨QA, qn, qc, rfl, by rw [← HI2.out]; rfl, HQA.out⟩, ⟨PA, pn, pc, rfl, HPA.out⟩, rfl, rfl⟩, rfl⟩
set_option maxHeartbeats 4000000 in
theorem wr12 (hk : k < 6) (h : Jr v0 s o1 o2 k b1 b2 p a w) (hd : a.defers = []) : pr12.wp Try.prog (fun e a' v' => (e = .normal ∧ Jr v0 s o1 o2 (k + 1) b1 b2 p a' v') ∨ (e = .ret ∧ False)) a w := by
  obtain ⟨⟨⟨hsz, hH⟩, ⟨q, SA, sn, sc, SB, sm, sd, e4, s0, s1, hSA, hSB⟩, ⟨RA, rn, rc, e5, e6, hRA⟩, ⟨QA, qn, qc, e7, e8, hQA⟩, ⟨PA, pn, pc, e9, hPA⟩, e10, e11⟩, e12⟩ := h
  obtain ⟨i1, hi1⟩ : ∃ i, i = o1.isSome := ⟨_, rfl⟩
  obtain ⟨i2, hi2⟩ : ∃ i, i = o2.isSome := ⟨_, rfl⟩
  rw [← hi1] at e6
  rw [← hi2] at e8
  have HI1 := Lib.hid hi1
  have HI2 := Lib.hid hi2
  clear hi1 hi2
  obtain ⟨tm, df⟩ := a
  simp only at hd hsz e4 e5 e6 e7 e8 e9 e10 e11 e12
  subst hd
  have hT := lit107 hsz
  rw [gv_of e4, gv_of e5, gv_of e6, gv_of e7, gv_of e8, gv_of e9, gv_of e10, gv_of e11, gv_of e12] at hT
  rw [hT]
  clear hT e4 e5 e6 e7 e8 e9 e10 e11 e12
  have HH := Lib.hid hH
  have HSA := Lib.hid hSA
  have HSB := Lib.hid hSB
  have HRA := Lib.hid hRA
  have HQA := Lib.hid hQA
  have HPA := Lib.hid hPA
  clear hH hSA hSB hRA hQA hPA hsz
  simp only [pr12, prB, prL, bodyR, Try.f3, Option.getD_some]
  go_wp2_with fail
  exact ⟨⟨⟨rfl, HH.out⟩, ⟨q, SA, sn, sc, SB, sm, sd, rfl, s0, s1, HSA.out, HSB.out⟩, ⟨RA, rn, rc, rfl, by rw [← HI1.out]; rfl, HRA.out⟩, ⟨QA, qn, qc, rfl, by rw [← HI2.out]; rfl, HQA.out⟩, ⟨PA, pn, pc, rfl, HPA.out⟩, rfl, rfl⟩, by go_num⟩
end
end Go.Proofs.Ytdlgjhngndpgoaa
namespace Go.Proofs.Ytdlgjhngndpgoaa
open Go.Conc Go.RowKit
set_option linter.unusedVariables false
set_option linter.unusedSimpArgs false
set_option maxRecDepth 100000
section
variable {v0 w : World} {s : Sy} {o1 o2 : Option (List Int)} {k : Nat} {b1 b2 : Bool} {p : List Int} {a : Act}
set_option maxHeartbeats 4000000 in
theorem wr13 (h : Jr v0 s o1 o2 k b1 b2 p a w) (hd : a.defers = []) : pr13.wp Try.prog (fun e a' v' => (e = .normal ∧ Jr v0 s o1 o2 k (b1 || decide (o1 = some p)) b2 p a' v') ∨ (e = .ret ∧ False)) a w := by
  cases b1 with
  | true =>
    rw [Bool.true_or]
    obtain ⟨⟨⟨hsz, hH⟩, ⟨q, SA, sn, sc, SB, sm, sd, e4, s0, s1, hSA, hSB⟩, ⟨RA, rn, rc, e5, e6, hRA⟩, ⟨QA, qn, qc, e7, e8, hQA⟩, ⟨PA, pn, pc, e9, hPA⟩, e10, e11⟩, e12⟩ := h
    obtain ⟨i1, hi1⟩ : ∃ i, i = o1.isSome := ⟨_, rfl⟩
    obtain ⟨i2, hi2⟩ : ∃ i, i = o2.isSome := ⟨_, rfl⟩
    rw [← hi1] at e6
    rw [← hi2] at e8
    have HI1 := Lib.hid hi1
    have HI2 := Lib.hid hi2
    clear hi1 hi2
    obtain ⟨tm, df⟩ := a
    simp only at hd hsz e4 e5 e6 e7 e8 e9 e10 e11 e12
    subst hd
    have hT := lit107 hsz
    rw [gv_of e4, gv_of e5, gv_of e6, gv_of e7, gv_of e8, gv_of e9, gv_of e10, gv_of e11, gv_of e12] at hT
    rw [hT]
    clear hT e4 e5 e6 e7 e8 e9 e10 e11 e12
    have HH := Lib.hid hH
    have HSA := Lib.hid hSA
    have HSB := Lib.hid hSB
    have HRA := Lib.hid hRA
    have HQA := Lib.hid hQA
    have HPA := Lib.hid hPA
    clear hH hSA hSB hRA hQA hPA hsz
    simp only [pr13, prC, prB, prL, bodyR, Try.f3, Option.getD_some]
    go_wp2_with fail
    exact ⟨⟨⟨rfl, HH.out⟩, ⟨q, SA, sn, sc, SB, sm, sd, rfl, s0, s1, HSA.out, HSB.out⟩, ⟨RA, rn, rc, rfl, by rw [← HI1.out]; rfl, HRA.out⟩, ⟨QA, qn, qc, rfl, by rw [← HI2.out]; rfl, HQA.out⟩, ⟨PA, pn, pc, rfl, HPA.out⟩, rfl, rfl⟩, rfl⟩
  | false =>
    rw [Bool.false_or]
    cases o1 with
    | none =>
      obtain ⟨⟨⟨hsz, hH⟩, ⟨q, SA, sn, sc, SB, sm, sd, e4, s0, s1, hSA, hSB⟩, ⟨RA, rn, rc, e5, e6, hRA⟩, ⟨QA, qn, qc, e7, e8, hQA⟩, ⟨PA, pn, pc, e9, hPA⟩, e10, e11⟩, e12⟩ := h
      obtain ⟨i2, hi2⟩ : ∃ i, i = o2.isSome := ⟨_, rfl⟩
      rw [← hi2] at e8
      have HI2 := Lib.hid hi2
      clear hi2
      obtain ⟨tm, df⟩ := a
      simp only at hd hsz e4 e5 e6 e7 e8 e9 e10 e11 e12
      subst hd
      have hT := lit107 hsz
      rw [gv_of e4, gv_of e5, gv_of e6, gv_of e7, gv_of e8, gv_of e9, gv_of e10, gv_of e11, gv_of e12] at hT
      rw [hT]
      clear hT e4 e5 e6 e7 e8 e9 e10 e11 e12
      have HH := Lib.hid hH
      have HSA := Lib.hid hSA
      have HSB := Lib.hid hSB
      have HRA := Lib.hid hRA
      have HQA := Lib.hid hQA
      have HPA := Lib.hid hPA
      clear hH hSA hSB hRA hQA hPA hsz
      simp only [pr13, prC, prB, prL, bodyR, Try.f3, Option.getD_some]
      go_wp2_with fail
      exact ⟨⟨⟨rfl, HH.out⟩, ⟨q, SA, sn, sc, SB, sm, sd, rfl, s0, s1, HSA.out, HSB.out⟩, ⟨RA, rn, rc, rfl, rfl, HRA.out⟩, ⟨QA, qn, qc, rfl, by rw [← HI2.out]; rfl, HQA.out⟩, ⟨PA, pn, pc, rfl, HPA.out⟩, rfl, rfl⟩, rfl⟩
    | some rk =>
      obtain ⟨eq, heq⟩ : ∃ b, (p == rk) = b := ⟨_, rfl⟩
      have HEQ := Lib.hid heq
      have hdq : decide (some rk = some p) = eq := by
        rw [← heq]
        by_cases h : p = rk
        · subst h; simp
        · rw [decide_eq_false (by intro e; cases e; exact h rfl)]; simp [h]
      rw [hdq]
      clear heq hdq
      obtain ⟨⟨⟨hsz, hH⟩, ⟨q, SA, sn, sc, SB, sm, sd, e4, s0, s1, hSA, hSB⟩, ⟨RA, rn, rc, e5, e6, hRA⟩, ⟨QA, qn, qc, e7, e8, hQA⟩, ⟨PA, pn, pc, e9, hPA⟩, e10, e11⟩, e12⟩ := h
      obtain ⟨i2, hi2⟩ : ∃ i, i = o2.isSome := ⟨_, rfl⟩
      rw [← hi2] at e8
      have HI2 := Lib.hid hi2
      clear hi2
      obtain ⟨tm, df⟩ := a
      simp only at hd hsz e4 e5 e6 e7 e8 e9 e10 e11 e12
      subst hd
      have hT := lit107 hsz
      rw [gv_of e4, gv_of e5, gv_of e6, gv_of e7, gv_of e8, gv_of e9, gv_of e10, gv_of e11, gv_of e12] at hT
      rw [hT]
      clear hT e4 e5 e6 e7 e8 e9 e10 e11 e12
      have HH := Lib.hid hH
      have HSA := Lib.hid hSA
      have HSB := Lib.hid hSB
      have HRA := Lib.hid hRA
      have HQA := Lib.hid hQA
      have HPA := Lib.hid hPA
      clear hH hSA hSB hRA hQA hPA hsz
      simp only [pr13, prC, prB, prL, bodyR, Try.f3, Option.getD_some]
      go_wp2_with fail
      (with_reducible refine (c_likeInts HEQ.out (RdI.mk HPA.out) (RdI.mk HRA.out)).mono ?_)
      rintro e w1 ⟨rfl, hE1⟩
      go_wp2_with fail
      exact ⟨⟨⟨rfl, HH.out.trans (Hx.ext hE1)⟩, ⟨q, SA, sn, sc, SB, sm, sd, rfl, Ext.keep hE1 s0, Ext.keep hE1 s1, HSA.out.ext hE1, HSB.out.ext hE1⟩, ⟨RA, rn, rc, rfl, rfl, HRA.out.ext hE1⟩, ⟨QA, qn, qc, rfl, by rw [← HI2.out]; rfl, HQA.out.ext hE1⟩, ⟨PA, pn, pc, rfl, HPA.out.ext hE1⟩, rfl, rfl⟩, rfl⟩
end
end Go.Proofs.Ytdlgjhngndpgoaa
