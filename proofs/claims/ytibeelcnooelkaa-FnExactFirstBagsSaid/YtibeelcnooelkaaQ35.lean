/- Several texts in one: CoT, BaS, BaU, CoQ, CoV, CoX, BaY. -/
import Derived.Test.YtibeelcnooelkaaQ09
import Derived.Test.YtibeelcnooelkaaQ34
import Derived.Test.YtibeelcnooelkaaQ18
import Derived.Test.YtibeelcnooelkaaQ10
import Derived.Test.YtibeelcnooelkaaQ32
namespace Go.Proofs.Ytibeelcnooelkaa
open Go.Conc
set_option linter.unusedVariables false
set_option linter.unusedSimpArgs false
section
variable {P : Program} {L : Lim} {O0 O : Set_} {β0 β γ : Bl} {v0 v w0 w v' w' w1 : World}
def RetC (P : Program) (f : FuncId) (R : Value → World → Prop) (g : Goroutine) (v : World) : Prop :=
  ∃ fr x fn, g = G fr [trap P] ∧ fr.fn = f ∧ P.funcs[f]? = some fn ∧ fr.mode = .returning ∧ fr.defers = [] ∧ fr.kind = .normal ∧ (∃ τ d, (results fn fr.tmps).run P (reW v τ d) = .ok x (reW v τ d)) ∧ R x v
theorem leave_stepC {main : Bool} {fr c : Frame} {cs : List Frame} {fn : Func} {x : Value} {of : Option (Array CommCase × CommShape)} {u u' : World} (hf : P.funcs[fr.fn]? = some fn) (hm : fr.mode = .returning) (hd : fr.defers = []) (hk : fr.kind = .normal)
    (hr : (results fn fr.tmps).run P u = .ok x u') : stepG P main { frame := fr, callers := c :: cs, status := .running, dying := none, offers := of } u = .go (G (c.finish x) cs) u' (seen P fr.fn ((results fn fr.tmps).events P u #[])) := by
  have hh : (results fn fr.tmps).runT P u #[] = (.ok x u', (results fn fr.tmps).events P u #[]) := by
    rw [Sem.runT_eq, hr]
  simp only [stepG, hm, unwind, hd, hf, hh, doReturn, hk, GStep.after]
  rfl
theorem co_enterC (hP : PL P L) (hg : P.globals.size ≤ L.g) (hF : FnsOK P L) {main : Bool} {Stop : Set_ → Goroutine → World → Prop} {f : FuncId} (hf : L.fn f) {as1 bs : Array Value} (hv : VsRel L β as1 bs) (hW : WRel L β v w) (hn : Named O β)
    {R : Value → World → Prop} (hR : ∀ x v τ d, R x v → R x (reW v τ d)) (hC : ∀ τ d, Calls P f as1 (reW v τ d) fun e v' => ∃ x, e = .returned x ∧ R x v')
    {c : Frame} {cs : List Frame} (next : ∀ γ x y v' w' O', R x v' → VRel L γ x y → WRel L γ v' w' → Named O' γ → Acc O β v w O' γ v' w' → Co P main Stop O' (G (c.finish y) cs) w') :
    Co P main Stop O (G (Frame.enter P f bs .normal) (c :: cs)) w := by
  obtain ⟨fn, code, hfn, hbody, hcode⟩ := hF.body f hf
  have hG : GRel P L [] (c :: cs) β (G (Frame.enter P f as1 .normal) [trap P]) (G (Frame.enter P f bs .normal) (c :: cs)) := ⟨enter_rel hF hf hv, .base, rfl, rfl, rfl, rfl⟩
  have hSre : ∀ g v τ d, RetC P f R g v → RetC P f R g (reW v τ d) := fun g v τ d ⟨fr, x, fn, h1, h2, h3, h4, h5, h6, ⟨τ0, d0, h7⟩, h8⟩ => ⟨fr, x, fn, h1, h2, h3, h4, h5, h6, ⟨τ0, d0, h7⟩, hR _ _ _ _ h8⟩
  have hSt : ∀ g v, RetC P f R g v → ¬ Doomed P g := fun g v ⟨fr, x, fn, h1, _, _, h4, _⟩ ht => by
    subst h1
    rcases ht.2.2 with ⟨h, _⟩ | ⟨⟨c, h⟩, _⟩
    · cases h
    · have h : fr.mode = _ := h
      rw [h4] at h; cases h
  have hrch : ∀ τ, Rch P (RetC P f R) (G (Frame.enter P f as1 .normal) [trap P]) (reW v τ 0) := fun τ => by
    obtain ⟨e, v', fr, ⟨x, rfl, hx⟩, hcomes, hfr, hm, hd, hk, fn', hfn', hres⟩ := hC τ 0 [trap P]
    obtain ⟨n, hn⟩ := hcomes
    exact rch_of_run hP hg hF hSt (g1 := G fr [trap P]) (v1 := v') ⟨fr, x, fn', rfl, hfr, hfr ▸ hfn', hm, hd, hk, ⟨v'.tape, v'.drawn, hres⟩, hx⟩ n _ _ (Mate.of hG hW τ 0) hn
  refine Tr.co hP hg hF (S := RetC P f R) (β0 := β) (v0 := v) (w0 := w) (O0 := O) (K := []) (rc := c :: cs) ?_ (bar hP hg hF hSre hSt hrch) hG hW hn (Acc.refl O β v w)
  rintro g v2 γ h w2 O2 ⟨fr, x, fn2, rfl, h2, h3, h4, h5, h6, ⟨τ0, d0, h7⟩, h8⟩ hG2 hW2 hn2 hA2
  have hcs : h.callers = c :: cs := hG2.cs.trap_inv
  have hfr := hG2.fr
  have hmode : h.frame.mode = .returning := by
    have := hfr.mode
    show h.frame.mode = _
    have e : (G fr [trap P]).frame.mode = .returning := h4
    rw [e] at this
    cases hm : h.frame.mode with
    | returning => rfl
    | run => rw [hm] at this; exact (this : False).elim
    | panicking _ => rw [hm] at this; exact (this : False).elim
  have hfn3 : P.funcs[h.frame.fn]? = some fn2 := by rw [← hfr.fn]; show P.funcs[fr.fn]? = _; rw [h2]; exact h3
  -- whatever the answers are, the results are the same
  have hall : ∀ τ d, (results fn2 fr.tmps).run P (reW v2 τ d) = .ok x (reW v2 τ d) := fun τ d => by
    have hW0 : WRel L γ (reW v2 τ0 d0) (reW w2 τ0 d0) := ⟨hW2.blk, hW2.inj, hW2.sv, hW2.sw⟩
    obtain ⟨n, hn⟩ := (rel_results (P := P) (L := L) fn2 hfr.tmps).shift hW0 (fun j q => rfl) (by
      show LiveR ((results fn2 fr.tmps).run P (reW v2 τ0 d0))
      rw [h7]; trivial)
    have h7' : (results fn2 (G fr [trap P]).frame.tmps).run P (reW v2 τ0 d0) = .ok x (reW v2 τ0 d0) := h7
    rw [h7'] at hn
    have e0 := hn τ0 d0 fun j _ q => rfl
    have e0' : (results fn2 (G fr [trap P]).frame.tmps).run P (reW v2 τ0 d0) = .ok x (reW v2 τ0 (d0 + n)) := e0
    rw [h7'] at e0'
    injection e0' with _ e0'
    have hn0 : d0 = d0 + n := congrArg World.drawn e0'
    obtain rfl : n = 0 := by omega
    exact hn τ d fun j hj => by omega
  obtain ⟨hfrm, hcall, hst, hdy, hof⟩ := h
  obtain rfl : hst = .running := hG2.sh
  obtain rfl : hdy = none := hG2.dh
  simp only at hcs
  subst hcs
  have key : ∀ w1, Ry O2 w2 w1 → ∃ δ y w' es, stepG P main { frame := hfrm, callers := c :: cs, status := .running, dying := none, offers := hof } w1 = .go (G (c.finish y) cs) w' es ∧ Foot L γ δ (reW v2 (nextT w1) 0) w1 (reW v2 (nextT w1) 0) w' ∧ (∀ e ∈ es, EvOk δ e) ∧ VRel L δ x y := fun w1 hr => by
    have hr2 := (rel_results (P := P) (L := L) fn2 hfr.tmps).run ((hW2.ry hn2 hr).re (nextT w1) 0) (agree_next v2 w1)
    have e1 : (results fn2 (G fr [trap P]).frame.tmps).run P (reW v2 (nextT w1) 0) = .ok x (reW v2 (nextT w1) 0) := hall _ _
    rw [e1] at hr2
    obtain ⟨δ, y, w', k1, k2, k3, k4⟩ := hr2
    exact ⟨δ, y, w', _, leave_stepC hfn3 hmode hfr.db hfr.kb k1, k2, fun e he => (k4 #[] e (seen_sub _ _ e he)).resolve_left (by simp), k3⟩
  refine .step rfl (fun w1 hr => ?_) fun w1 g2 w2' es2 hr e => ?_
  · obtain ⟨δ, y, w', es, h1, F, hE, _⟩ := key w1 hr
    exact ⟨_, w', es, h1, F.gu hn2 hE⟩
  · obtain ⟨δ, y, w', es, h1, F, hE, hxy⟩ := key w1 hr
    rw [h1] at e; cases e
    exact next δ x y _ _ _ (hR _ _ _ _ h8) hxy F.rel (F.named hn2) (((hA2.rely hr).re (nextT w1) 0).foot F)
end
section
variable {P : Program} {L : Lim} {main : Bool} {Stop : Set_ → Goroutine → World → Prop} {A : An} {b : Frame} {rc : List Frame} {k k' : List Item} {Φ Ψ : Act → World → Prop} {β γ : Bl} {ag a : Act}
theorem Wk.callC (X : Cx P L) (hk : b.kind ≠ .early) {ops : Array Oper} {i : Nat} {rest : List Nat} {o : Oper} {f : FuncId} {args : Array Operand} {ats : Array TypeId} (ho : ops[i]? = some o) (hop : o.op = .call { callee := .value (.func f), args, argTypes := ats }) (hg : o.guard = none) {d : Option Tmp} (hd : o.dst = d)
    (hf : L.fn f) (hx : ∀ x ∈ args.toList, XOK L x) (iΦ : Ins Φ) (iΨ : Ins Ψ)
    (h : ∀ a v, Φ a v → a.defers = [] → Calls P f (args.map a.eval) v fun e v' => ∃ x, e = .returned x ∧ Ψ (a.put d x) v')
    (hn : Wk P L main Stop A b rc (.inRegion ops rest :: k) Ψ) : Wk P L main Stop A b rc (.inRegion ops (i :: rest) :: k) Φ := by
  subst hd
  intro γ ag a v w O hp k2 k3 k4 k5 k6 k7
  obtain ⟨fn, hfn, hnm, hbd⟩ := X.pl.fn f hf
  have hwa : ∀ t, Region.wanted o (yielded ops t) = true := fun t => by simp [Region.wanted, hg]
  have hb' : fn.body.isNone = false := by cases h : fn.body <;> simp_all
  refine Co.one rfl (fun w1 => ?_) (co_enterC X.pl X.gl X.fn hf (act_evals k4 hx) k5 k6 (R := fun x v' => Ψ (ag.put o.dst x) v') (fun x v τ d hh => iΨ _ _ _ _ hh) (fun τ d => h _ _ (iΦ _ _ _ _ hp) k2) (c := b.at a (.inRegion ops (i :: rest) :: k)) (cs := rc) fun γ' x y v' w' O' hq hv hW hN hA => ?_)
  · rw [stepG_enter ho (hwa _) hk (run_call_body hop hfn hnm hb')]
    have : listed P b.fn a o w1 = #[] := by unfold listed; rw [events_call_body hop hfn hnm hb']; exact seen_none P _
    rw [this]
  · rw [Frame.finish_at, ho]
    exact hn _ _ _ _ _ _ hq (by rw [put_defers, k2]) (by rw [put_defers, k3]) ((k4.mono hA.le).put _ hv) hW hN (k7.trans hA)
end
end Go.Proofs.Ytibeelcnooelkaa
namespace Go.Proofs.Ytibeelcnooelkaa
open Go.Conc Go.RowKit
set_option linter.unusedVariables false
set_option linter.unusedSimpArgs false
set_option maxRecDepth 100000
section
variable {v0 v v' : World} {x0 : Sy} {PA0 PB0 : Option Addr} {pn0 pc0 pm0 pd0 : Nat} {a : Act}
theorem Lc.hx (h : Lc v0 x0 PA0 pn0 pc0 PB0 pm0 pd0 a v) (k : Hx v v') : Lc v0 x0 PA0 pn0 pc0 PB0 pm0 pd0 a v' := by
  obtain ⟨h0, h1, q1, A4, n4, c4, A7, n7, c7, k1, k2, k3, k4, k5, k6, k7, k8, k9⟩ := h
  exact ⟨h0, h1.trans k, q1, A4, n4, c4, A7, n7, c7, k1, k.keep k2, k.keep k3, k4, k5, k6.hx k, k7, k8.hx k, k9⟩
theorem Lc.put {t : Nat} {x : Value} (h : Lc v0 x0 PA0 pn0 pc0 PB0 pm0 pd0 a v) (h1 : t ≠ 1) (h4 : t ≠ 4) (h5 : t ≠ 5) (h7 : t ≠ 7) (h10 : t ≠ 10) : Lc v0 x0 PA0 pn0 pc0 PB0 pm0 pd0 (a.put (some t) x) v := by
  obtain ⟨e0, e1, q1, A4, n4, c4, A7, n7, c7, k1, k2, k3, k4, k5, k6, k7, k8, k9, k10, k11⟩ := h
  exact ⟨by rw [put_size, e0], e1, q1, A4, n4, c4, A7, n7, c7, by rw [put_get, if_neg h1, k1], k2, k3, by rw [put_get, if_neg h4, k4], by rw [put_get, if_neg h5, k5], k6, by rw [put_get, if_neg h7, k7], k8, k9, by rw [put_get, if_neg h10, k10], k11⟩
theorem Lc.ins : Ins (Lc v0 x0 PA0 pn0 pc0 PB0 pm0 pd0) := fun a v τ d h => h
def Ld (v0 : World) (x0 : Sy) (PA0 : Option Addr) (pn0 pc0 : Nat) (PB0 : Option Addr) (pm0 pd0 : Nat) (a : Act) (v : World) : Prop :=
  Lc v0 x0 PA0 pn0 pc0 PB0 pm0 pd0 a v ∧ ∃ B x y, a.tmps[12]? = some x ∧ a.tmps[13]? = some y ∧ Own7 x0 B x y v
end
theorem run_ld42 (a : Act) (w : World) (o : Oper) (q n c m d : Nat) (A B : Option Addr) (hop : o.op = .load 42 (.tmp 1)) (hx : a.eval (.tmp 1) = .pointer (some ⟨q, 0, none⟩)) (h : w.cell? ⟨q, 0, none⟩ = some (.slice A n c)) (h1 : w.cell? ⟨q, 1, none⟩ = some (.slice B m d)) : (execOp a.eval o).run Try.prog w = .ok (.value (.agg #[.slice A n c, .slice B m d])) w := by
  simp only [Act.eval, Array.getD_eq_getD_getElem?] at hx
  unfold execOp
  simp only [hop]
  simp [go_sem, hx, h, h1]
section
variable {m : Nat} {A : An} {Post : Value → World → Prop} {K : Nat} {StA : Set_ → Goroutine → World → Prop} {x0 : Sy} {PA0 PB0 : Option Addr} {pn0 pc0 pm0 pd0 : Nat} {k : List Item}
theorem law18 (hSo : Offs StA) (hoS : Offs (ScrS Try.prog Post K)) (hK : Script_ Try.prog Post K = Co Try.prog true StA) (hmono : ∀ O g w, StA O g w → ScrS Try.prog Post K O g w)
    (hn : Wk Try.prog (LM m) true StA A (base 5) [] k (Ld A.v x0 PA0 pn0 pc0 PB0 pm0 pd0)) : Wk Try.prog (LM m) true (ScrS Try.prog Post K) A (base 5) [] (.code lw18 :: k) (Lc A.v x0 PA0 pn0 pc0 PB0 pm0 pd0) := by
  simp only [lw18, bodyW, Try.f5, Option.getD_some]
  refine Wk.reg (l := [0, 1, 2, 3, 4, 5, 6, 7]) rfl ?_
  refine Wk.op (X m) bWe rfl (d := some 74) rfl (xtmp (m := m) 1) Lc.ins (Ψ := fun a v => Lc A.v x0 PA0 pn0 pc0 PB0 pm0 pd0 a v ∧ a.tmps[74]? = some (.agg #[.slice PA0 pn0 pc0, .slice PB0 pm0 pd0])) (fun a v h _ => ?_) ?_
  · have h' := h
    obtain ⟨h0, h1, q1, A4, n4, c4, A7, n7, c7, k1, k2, k3, _⟩ := h
    exact ⟨by rfl, .inl ⟨_, _, run_ld42 a v _ q1 _ _ _ _ _ _ rfl (eval_tmp k1) k2 k3, h'.put (by decide) (by decide) (by decide) (by decide) (by decide), by rw [put_get, if_pos rfl, if_pos (by rw [h0]; decide)]⟩⟩
  refine Wk.callC (X m) bWe rfl rfl rfl (d := some 75) rfl (by show fnB _ = true; kernel_rfl) (fun x hx => by simp at hx; subst hx; exact trivial) (fun a v τ d h => h) (Ψ := fun a v => Lc A.v x0 PA0 pn0 pc0 PB0 pm0 pd0 a v ∧ ∃ A5 n5 c5 B5 m5 d5, a.tmps[75]? = some (Value.agg #[Value.slice A5 n5 c5, Value.slice B5 m5 d5]) ∧ RI v A5 n5 x0.ar ∧ RR true v B5 m5 x0.rs) (fun a v τ d h => h) (fun a v h hd => ?_) ?_
  · obtain ⟨hL, h74⟩ := h
    have he : (#[Operand.tmp 74].map a.eval) = #[.agg #[.slice PA0 pn0 pc0, .slice PB0 pm0 pd0]] := by simp [eval_tmp h74]
    rw [he]
    have hH := hL.2.1
    have hz := hL.1
    have hP : RI A.v PA0 pn0 x0.ar ∧ RR false A.v PB0 pm0 x0.rs := by
      obtain ⟨_, _, _, _, _, _, _, _, _, _, _, _, _, _, _, _, _, _, _, h1, h2⟩ := hL
      exact ⟨h1, h2⟩
    refine (c_toSystem (RdSyK.mk (hP.1.hx hH) (hP.2.hx hH))).mono fun e v' h => ?_
    obtain ⟨x, rfl, ⟨A5, n5, c5, B5, m5, d5, rfl, h1, h2⟩, hE⟩ := h.out
    exact ⟨_, rfl, (hL.hx (Hx.ext hE)).put (by decide) (by decide) (by decide) (by decide) (by decide), A5, n5, c5, B5, m5, d5, by rw [put_get, if_pos rfl, if_pos (by rw [hz]; decide)], h1, h2⟩
  intro γ ag a v w O hp k2 k3 k4 k5 k6 k7
  obtain ⟨hLa, A5, n5, c5, B5, m5, d5, h28, hri, hrr⟩ := hp
  refine co_into bWe rfl rfl rfl Try.func10 (by rfl) (c := bodyQB) rfl (fun x hx => by simp at hx; subst hx; exact trivial) k2 k3 k4 k5 k6 ?_
  refine (fr_wkB (A := ⟨O, γ, v, w⟩) (s := x0) hSo hoS hK hmono ?_).mono fun a' v' h => ?_
  · intro γ2 x y v2 w2 O2 hout hxy hW2 hN2 hA2
    rw [Frame.finish_at]
    obtain ⟨y0, y1, rfl⟩ := hout.pair
    have hH := hout.1
    have hO7 := own7 (x0 := x0) hout.2
    have hz : ag.tmps.size = 96 := hLa.1
    refine Wk.use (Φ := fun a v' => Lc A.v x0 PA0 pn0 pc0 PB0 pm0 pd0 a v' ∧ a.tmps[76]? = some (.tuple #[y0, y1]) ∧ Own7 x0 v.heap.size y0 y1 v') (ag := ag.put (some 76) (.tuple #[y0, y1])) ⟨(hLa.hx hH).put (by decide) (by decide) (by decide) (by decide) (by decide), by rw [put_get, if_pos rfl, if_pos (by rw [hz]; decide)], hO7⟩ (by rw [put_defers, k2]) (by rw [put_defers, k3]) ((k4.mono hA2.le).put _ hxy) hW2 hN2 (k7.trans hA2) ?_
    clear hout hxy hO7 hH hLa
    refine Wk.mv (X m) bWe rfl (.inl rfl) rfl (d := some 73) rfl (xtmp 76) (Ψ := fun a v' => Lc A.v x0 PA0 pn0 pc0 PB0 pm0 pd0 a v' ∧ a.tmps[73]? = some (.tuple #[y0, y1]) ∧ Own7 x0 v.heap.size y0 y1 v') (fun a v h => ⟨h.1.put (by decide) (by decide) (by decide) (by decide) (by decide), by rw [put_get, if_pos rfl, if_pos (by rw [h.1.1]; decide), eval_tmp h.2.1], h.2.2⟩) ?_
    refine Wk.op (X m) bWe rfl (d := some 77) rfl (xtmp (m := m) 73) (fun a v τ d h => h) (Ψ := fun a v' => (Lc A.v x0 PA0 pn0 pc0 PB0 pm0 pd0 a v' ∧ a.tmps[73]? = some (.tuple #[y0, y1]) ∧ Own7 x0 v.heap.size y0 y1 v') ∧ a.tmps[77]? = some y0) (fun a v h _ => ⟨by rfl, .inl ⟨_, _, run_ex7 a v _ y0 y1 0 73 rfl (eval_tmp h.2.1) (by decide), ⟨h.1.put (by decide) (by decide) (by decide) (by decide) (by decide), by rw [put_get, if_neg (by decide), h.2.1], h.2.2⟩, by rw [put_get, if_pos rfl, if_pos (by rw [h.1.1]; decide)]; rfl⟩⟩) ?_
    refine Wk.op (X m) bWe rfl (d := some 78) rfl (xtmp (m := m) 73) (fun a v τ d h => h) (Ψ := fun a v' => (Lc A.v x0 PA0 pn0 pc0 PB0 pm0 pd0 a v' ∧ Own7 x0 v.heap.size y0 y1 v') ∧ a.tmps[77]? = some y0 ∧ a.tmps[78]? = some y1) (fun a v h _ => ⟨by rfl, .inl ⟨_, _, run_ex7 a v _ y0 y1 1 73 rfl (eval_tmp h.1.2.1) (by decide), ⟨h.1.1.put (by decide) (by decide) (by decide) (by decide) (by decide), h.1.2.2⟩, by rw [put_get, if_neg (by decide), h.2], by rw [put_get, if_pos rfl, if_pos (by rw [h.1.1.1]; decide)]; rfl⟩⟩) ?_
    refine Wk.mv (X m) bWe rfl (.inr rfl) rfl (d := some 12) rfl (xtmp 77) (Ψ := fun a v' => (Lc A.v x0 PA0 pn0 pc0 PB0 pm0 pd0 a v' ∧ Own7 x0 v.heap.size y0 y1 v') ∧ a.tmps[12]? = some y0 ∧ a.tmps[78]? = some y1) (fun a v h => ⟨⟨h.1.1.put (by decide) (by decide) (by decide) (by decide) (by decide), h.1.2⟩, by rw [put_get, if_pos rfl, if_pos (by rw [h.1.1.1]; decide), eval_tmp h.2.1], by rw [put_get, if_neg (by decide), h.2.2]⟩) ?_
    refine Wk.mv (X m) bWe rfl (.inr rfl) rfl (d := some 13) rfl (xtmp 78) (Ψ := Ld A.v x0 PA0 pn0 pc0 PB0 pm0 pd0) (fun a v' h => ⟨h.1.1.put (by decide) (by decide) (by decide) (by decide) (by decide), v.heap.size, y0, y1, by rw [put_get, if_neg (by decide), h.2.1], by rw [put_get, if_pos rfl, if_pos (by rw [h.1.1.1]; decide), eval_tmp h.2.2], h.1.2⟩) (Wk.regionEnd hn)
  · obtain ⟨rfl, rfl⟩ := h
    refine ⟨A5, n5, c5, B5, m5, d5, ?_, hri, hrr, Hx.refl _⟩
    have e : (#[Operand.tmp 75].map ag.eval) = #[.agg #[.slice A5 n5 c5, .slice B5 m5 d5]] := by simp [eval_tmp h28]
    show Act.mk (_ ++ _) [] = _
    rw [e]
    simp [litQ, Try.ntmps10]
end
end Go.Proofs.Ytibeelcnooelkaa
namespace Go.Proofs.Ytibeelcnooelkaa
open Go.Conc Go.ChangeShapes Go.WideShapes Go.ChangeAt Go.RowKit
set_option linter.unusedVariables false
set_option linter.unusedSimpArgs false
set_option maxRecDepth 100000
set_option maxHeartbeats 4000000 in
theorem chunkC {v0 w : World} {x0 : Sy} {PA0 PB0 : Option Addr} {pn0 pc0 pm0 pd0 : Nat} {a : Act} (h : Ld v0 x0 PA0 pn0 pc0 PB0 pm0 pd0 a w) (hd : a.defers = []) :
    lwC.wp Try.prog (fun e a' v' => (e = .normal ∧ False) ∨ (e = .ret ∧ a'.tmps.size = 96 ∧ a'.tmps[2]? = some (.bool true) ∧ Hx v0 v')) a w := by
  obtain ⟨⟨hsz, hH, q1, A4, n4, c4, A7, n7, c7, e1, bx0, bx1, e4, e5, hA4, e7, hA7, hn7, e10, hP1, hP2⟩, BB, y, z, e12, e13, A12, n12, c12, rfl, rfl, hO12⟩ := h
  obtain ⟨oo, hoo⟩ : ∃ oo, oo = ansF false x0 := ⟨_, rfl⟩
  rw [← hoo] at e5 hA4 e13 hO12
  obtain ⟨bb, hbb⟩ : ∃ bb, bb = oo.isSome := ⟨_, rfl⟩
  rw [← hbb] at e5 e13
  clear hoo hbb
  obtain ⟨tm, df⟩ := a
  simp only at hd hsz e1 e4 e5 e7 e10 e12 e13
  subst hd
  obtain ⟨tv0, tv1, tv2, tv3, tv4, tv5, tv6, tv7, tv8, tv9, tv10, tv11, tv12, tv13, tv14, tv15, tv16, tv17, tv18, tv19, tv20, tv21, tv22, tv23, tv24, tv25, tv26, tv27, tv28, tv29, tv30, tv31, tv32, tv33, tv34, tv35, tv36, tv37, tv38, tv39, tv40, tv41, tv42, tv43, tv44, tv45, tv46, tv47, tv48, tv49, tv50, tv51, tv52, tv53, tv54, tv55, tv56, tv57, tv58, tv59, tv60, tv61, tv62, tv63, tv64, tv65, tv66, tv67, tv68, tv69, tv70, tv71, tv72, tv73, tv74, tv75, tv76, tv77, tv78, tv79, tv80, tv81, tv82, tv83, tv84, tv85, tv86, tv87, tv88, tv89, tv90, tv91, tv92, tv93, tv94, tv95, hTm⟩ := lit96 hsz
  subst hTm
  simp at e1 e4 e5 e7 e10 e12 e13
  subst e1; subst e4; subst e5; subst e7; subst e10; subst e12; subst e13
  have HH := Lib.hid hH
  have HR4 := Lib.hid hA4
  have HR7 := Lib.hid hA7
  have HO12 := Lib.hid hO12
  clear hA4 hA7 hO12 hH hsz hP1 hP2 bx0 bx1
  simp only [lwC, bodyW, Try.f5, Option.getD_some]
  go_wp2_with fail
  (with_reducible refine (c_eqInt64S_self (RdI.mk HO12.out.ri) (RdI.mk HR4.out)).mono ?_); rintro e w1 ⟨rfl, hE1⟩; have hz1 := sz_of hE1; (try simp only [World.size_alloc, World.size_setCell, World.size_drew] at hz1); obtain ⟨hc1, hf1⟩ := bcell hE1; (try have hq1_0 : w.heap.size < w1.heap.size := by omega); (try have hq1_1 : w.heap.size + 1 < w1.heap.size := by omega); (try have hq1_2 : w.heap.size + 1 + 1 < w1.heap.size := by omega); (try have hq1_3 : w.heap.size + 1 + 1 + 1 < w1.heap.size := by omega); (try have hq1_4 : w.heap.size + 1 + 1 + 1 + 1 < w1.heap.size := by omega); (try have hq1_5 : w.heap.size + 1 + 1 + 1 + 1 + 1 < w1.heap.size := by omega)
  go_wp2_with fail
  (with_reducible refine (c_heldInts (k := 1) (RI.ext HR7.out hE1) (by omega) (by omega)).mono ?_)
  rintro e w2 ⟨rfl, rfl⟩
  have e16 : ((1 + (n7 : Int)) != (1 + (n7 : Int))) = false := by simp
  go_wp2_with fail
  exact HH.out.trans (Hx.ext hE1)
end Go.Proofs.Ytibeelcnooelkaa
namespace Go.Proofs.Ytibeelcnooelkaa
open Go.Conc
set_option linter.unusedVariables false
set_option linter.unusedSimpArgs false
section
variable {P : Program} {L : Lim} {Stop : Set_ → Goroutine → World → Prop} {A : An} {b : Frame} {Φ : Act → World → Prop} {Post : Value → World → Prop}
theorem stepG_done {fn : Func} {a : Act} {todo : List Item} {v : Value} {w : World} (hn : b.kind = .normal) (hi : P.inits.idxOf? b.fn = none) (hd : a.defers = []) (hf : P.funcs[b.fn]? = some fn) (hr : ∀ u es, (results fn a.tmps).runT P u es = (.ok v u, es)) :
    stepG P true (G { b.at a todo with mode := .returning } []) w = .ended (.done v) w #[] := by
  have hh := hr w #[]
  simp only [G, stepG, unwind, Frame.at, hd, hf, hh, doReturn, hn, GStep.after, seen_nil, hi, Bool.not_true, Bool.false_eq_true, if_false]
  rfl
theorem WkR.done {fn : Func} (hb : b.kind = .normal) (hi : P.inits.idxOf? b.fn = none) (hf : P.funcs[b.fn]? = some fn) (hT : TmpRes fn) (hStop : ∀ O g w, AtEnd_ P Post g w → Stop O g w) {R : Value → World → Prop} (hR : ∀ a v, Φ a v → ∃ x, (∀ u, (results fn a.tmps).run P u = .ok x u) ∧ R x v)
    (post : ∀ γ x y v w O, R x v → VRel L γ x y → WRel L γ v w → Named O γ → Acc A.O A.β A.v A.w O γ v w → Post y w) : WkR P L true Stop A b [] Φ := by
  intro γ ag a v w O todo hp k2 k3 k4 k5 k6 k7
  obtain ⟨x, hx, hq⟩ := hR _ _ hp
  obtain ⟨y, hy⟩ := tmpRes_run (P := P) hT a.tmps
  refine .stop fun w1 hr1 => hStop _ _ _ ⟨rfl, y, stepG_done hb hi k3 hf hy, ?_⟩
  have hW := k5.ry k6 hr1
  have hxy : VRel L γ x y := by
    have hr := (rel_results (P := P) (L := L) fn k4).run (hW.re (nextT w1) 0) (agree_next v w1)
    have e2 : (results fn a.tmps).run P w1 = .ok y w1 := by
      have := hy w1 #[]
      rw [Sem.runT_eq] at this
      exact (Prod.mk.inj this).1
    rw [hx] at hr
    obtain ⟨δ, y2, w3, q1, q2, q3, q4⟩ := hr
    rw [e2] at q1
    cases q1
    refine VRel.mono (fun k z e => ?_) q3
    rcases q2.new k z e with e | ⟨_, e2⟩
    · exact e
    · obtain ⟨o, p, h1, _⟩ := q2.rel.blk k z e
      have := lt_of_heap h1
      have h9 : (reW v (nextT w1) 0).heap.size ≤ k := e2
      omega
  exact post γ x y v w1 O hq hxy hW k6 (k7.rely hr1)
end
end Go.Proofs.Ytibeelcnooelkaa
namespace Go.Proofs.Ytibeelcnooelkaa
open Go.Conc Go.RowKit
set_option linter.unusedVariables false
set_option linter.unusedSimpArgs false
section
variable {L : Lim} {β γ : Bl}
theorem VRel.uniq (hid : ∀ k x, k < L.m → β k = some x → x = k) {u y : Value} (h : VRel L β u y) : ∀ {z : Value}, VRel L β u z → y = z := by
  have arr : ∀ {us bs cs : Array Value}, us.size = bs.size → us.size = cs.size → (∀ (i : Nat) (v w : Value), us[i]? = some v → bs[i]? = some w → ∀ {z : Value}, VRel L β v z → w = z) →
      (∀ (i : Nat) (v w : Value), us[i]? = some v → cs[i]? = some w → VRel L β v w) → bs = cs := fun {us bs cs} h1 h2 ih k => by
    refine Array.ext_getElem? fun i => ?_
    cases hb : bs[i]? with
    | none =>
      have : cs.size ≤ i := by rw [← h2, h1]; simpa using hb
      simp [this]
    | some b =>
      have hi : i < bs.size := (Array.getElem?_eq_some_iff.1 hb).1
      have ha : us[i]? = some us[i] := Array.getElem?_eq_getElem (by omega)
      have hc : cs[i]? = some cs[i] := Array.getElem?_eq_getElem (by omega)
      rw [hc, ih i _ _ ha hb (k i _ _ ha hc)]
  have ora : ∀ {a b c : Option Addr}, OARel L β a b → OARel L β a c → b = c := fun {a b c} h k => by
    cases a with
    | none => cases b <;> cases c <;> first | rfl | exact h.elim | exact k.elim
    | some a =>
      cases b with
      | none => exact h.elim
      | some b =>
        cases c with
        | none => exact k.elim
        | some c =>
          obtain ⟨h1, h2, h3, _⟩ := h
          obtain ⟨k1, k2, k3, _⟩ := k
          rw [h1] at k1
          obtain ⟨bb, bo, bs⟩ := b
          obtain ⟨cb, co, cs⟩ := c
          simp only at h2 h3 k2 k3 k1
          injection k1 with k1
          rw [k1, ← h2, ← h3, ← k2, ← k3]
  have orz : ∀ {a : Addr} {b : Option Addr}, a.block < L.m → OARel L β (some a) b → b = some a := fun {a b} hm h => by
    cases b with
    | none => exact h.elim
    | some b =>
      obtain ⟨h1, h2, h3, _⟩ := h
      have := hid _ _ hm h1
      obtain ⟨bb, bo, bs⟩ := b
      obtain ⟨ab, ao, us⟩ := a
      simp only at h2 h3 this
      rw [this, h2, h3]
  induction h with
  | poison h => exact fun k => (pz_inv k).symm
  | bool b => intro z k; generalize hx : Value.bool b = x at k; cases k <;> cases hx <;> rfl
  | int kd n => intro z k; generalize hx : Value.int kd n = x at k; cases k <;> cases hx <;> rfl
  | string s => intro z k; generalize hx : Value.string s = x at k; cases k <;> cases hx <;> rfl
  | @pointer a b h =>
    intro z k; generalize hx : Value.pointer a = x at k
    cases k <;> cases hx
    rename_i k
    rw [ora h k]
  | @slice a b n c h =>
    intro z k; generalize hx : Value.slice a n c = x at k
    cases k <;> cases hx
    · rename_i k
      rw [ora h k]
    · rename_i k
      rw [orz k h]
  | sliceZ a h =>
    intro z k; generalize hx : Value.slice (some a) 0 0 = x at k
    cases k <;> cases hx
    · rename_i k
      rw [orz h k]
    · rfl
  | map => intro z k; generalize hx : Value.map none = x at k; cases k <;> cases hx <;> rfl
  | @chan r s h =>
    intro z k; generalize hx : Value.chan (some r) = x at k
    cases k <;> cases hx
    rename_i k
    rw [h] at k; cases k; rfl
  | chan0 => intro z k; generalize hx : Value.chan none = x at k; cases k <;> cases hx <;> rfl
  | @func f us bs cs ds hf h1 h2 _ _ i3 i4 =>
    intro z k; generalize hx : Value.func (.func f) us cs = x at k
    cases k <;> cases hx
    congr 1
    · exact arr h1 (by assumption) i3 (by assumption)
    · exact arr h2 (by assumption) i4 (by assumption)
  | nilFunc => intro z k; generalize hx : Value.nilFunc = x at k; cases k <;> cases hx <;> rfl
  | @iface t v w ht h ih =>
    intro z k; generalize hx : Value.iface t v = x at k
    cases k <;> cases hx
    rename_i k1 k2
    rw [ih k2]
  | nilIface => intro z k; generalize hx : Value.nilIface = x at k; cases k <;> cases hx <;> rfl
  | @agg us bs h1 h ih =>
    intro z k; generalize hx : Value.agg us = x at k
    cases k <;> cases hx
    rename_i k1 k2
    rw [arr h1 k1 ih k2]
  | @tuple us bs h1 h ih =>
    intro z k; generalize hx : Value.tuple us = x at k
    cases k <;> cases hx
    rename_i k1 k2
    rw [arr h1 k1 ih k2]
theorem VsRel.uniq (hid : ∀ k x, k < L.m → β k = some x → x = k) {us ys zs : Array Value} (h : VsRel L β us ys) (k : VsRel L β us zs) : ys = zs := by
  have := VRel.uniq hid (VRel.agg h.1 h.2) (VRel.agg k.1 k.2)
  injection this
end
def isCells : Option Obj → Bool
  | some (.cells _ _ _) => true
  | _ => false
def bet0 (W : World) : Bl := fun k => if isCells W.heap[k]? then some k else none
theorem bet0_inv {W : World} {k x : Nat} (h : bet0 W k = some x) : x = k ∧ ∃ d T f, W.heap[k]? = some (.cells d T f) := by
  unfold bet0 at h
  split at h
  · rename_i hc
    cases h
    refine ⟨rfl, ?_⟩
    cases hk : W.heap[k]? with
    | none => rw [hk] at hc; cases hc
    | some o =>
      rw [hk] at hc
      cases o with
      | cells d T f => exact ⟨d, T, f, rfl⟩
      | _ => cases hc
  · cases h
theorem bet0_of {W : World} {k : Nat} {d : Array Value} {T : TypeId} {f : Nat × Nat} (h : W.heap[k]? = some (.cells d T f)) : bet0 W k = some k := by
  unfold bet0
  rw [h]; rfl
def padW (W : World) (m : Nat) : World := { W with heap := W.heap ++ Array.replicate m default }
theorem padW_at {W : World} {m k : Nat} (h : k < W.heap.size) : (padW W m).heap[k]? = W.heap[k]? := by
  show (W.heap ++ _)[k]? = _
  rw [Array.getElem?_append_left h]
theorem padW_size (W : World) (m : Nat) : (padW W m).heap.size = W.heap.size + m := by simp [padW]
theorem ghost_start (L : Lim) (hg : L.g = 0) (W : World) : ∃ v : World, v.heap.size = W.heap.size + L.m ∧ WRel L (bet0 W) v W ∧ ∀ (p : Addr) (x : Value), W.cell? p = some x → VRel L (bet0 W) x x → v.cell? p = some x := by
  obtain ⟨v, h1, _, _, _, _, h6, h7⟩ := rebuild (L := L) (γ := bet0 W) (padW W L.m) W (fun k x e => by
    obtain ⟨rfl, d, T, f, h⟩ := bet0_inv e
    have := (Array.getElem?_eq_some_iff.1 h).1
    exact ⟨by rw [padW_size]; omega, d, T, f, h⟩) (fun k l x e1 e2 => by rw [← (bet0_inv e1).1, ← (bet0_inv e2).1]) (by rw [hg]; exact Nat.zero_le _) (by rw [hg]; exact Nat.zero_le _)
  refine ⟨v, by rw [h1, padW_size], h6, fun p x hx hr => ?_⟩
  obtain ⟨c, T, f, e, hs, hc⟩ := cell_isC hx
  have hlt := (Array.getElem?_eq_some_iff.1 e).1
  obtain ⟨c', k1, k2, k3⟩ := h7 p.block p.block c T f (bet0_of e) e
  have := k3 p.off x x (by rw [padW_at hlt, e]; exact hc) hc hr
  unfold World.cell?
  rw [k1]
  simp only [hs, Option.isSome_none, Bool.false_eq_true, if_false]
  exact this
theorem real_end {L : Lim} {W v v' w : World} {γ : Bl} {O : Set_} (hv : L.m ≤ v.heap.size) (hW : WRel L (bet0 W) v W) (hW' : WRel L γ v' w) (hH : Hx v v') (hA : Acc (fun x => x < W.heap.size) (bet0 W) v W O γ v' w) : Below W.heap.size W w := by
  refine ⟨hA.os, hA.tape, hA.output, hA.gw, fun k hk => ?_⟩
  have hid : ∀ k x, k < L.m → γ k = some x → x = k := fun k x hm e => by
    rcases hA.new k x e with h | ⟨_, h⟩
    · exact (bet0_inv h).1
    · omega
  cases hb : bet0 W k with
  | none =>
    refine hA.keep k hk hk fun l e => ?_
    obtain ⟨rfl, d, T, f, h⟩ := bet0_inv e
    rw [bet0_of h] at hb; cases hb
  | some x =>
    obtain ⟨rfl, d, T, f, h⟩ := bet0_inv hb
    obtain ⟨o, p, h1, h2, h3⟩ := hW.blk _ _ hb
    rw [h] at h2; cases h2
    cases h3 with
    | cells _ _ h3 =>
      rename_i c
      obtain ⟨o', p', k1, k2, k3⟩ := hW'.blk _ _ (hA.le _ _ hb)
      rw [hH.2 x (lt_of_heap h1), h1] at k1
      cases k1
      cases k3 with
      | cells _ _ k3 =>
        rename_i d'
        rw [k2, h]
        rw [VsRel.uniq hid k3 (h3.mono hA.le)]
end Go.Proofs.Ytibeelcnooelkaa
namespace Go.Proofs.Ytibeelcnooelkaa
open Go.ChangeShapes Go.WideShapes Go.ChangeAt Go.RowKit Go.Joins Go.Deep
set_option linter.unusedSimpArgs false
set_option linter.unusedVariables false
set_option linter.constructorNameAsVariable false
def Fit (w : World) (A : Option Addr) (n c : Nat) : Prop := A = none ∨ ∃ a, A = some a ∧ ((∃ d T f, w.heap[a.block]? = some (.cells d T f)) ∨ (n = 0 ∧ c = 0))
theorem Fit.of_cell {w : World} {a : Addr} {n c : Nat} {i : Nat} {x : Value} (h : w.cell? (a.add i) = some x) : Fit w (some a) n c := by
  obtain ⟨d, T, f, h1, _⟩ := cell_isC h
  rw [add_blockC] at h1
  exact .inr ⟨a, rfl, .inl ⟨d, T, f, h1⟩⟩
theorem Fit.rel {w : World} {A : Option Addr} {n c : Nat} (h : Fit w A n c) : ∃ M, ∀ m, M ≤ m → VRel (LM m) (bet0 w) (.slice A n c) (.slice A n c) := by
  rcases h with rfl | ⟨a, rfl, ⟨d, T, f, h⟩ | ⟨rfl, rfl⟩⟩
  · exact ⟨0, fun m _ => .slice (a := none) (b := none) _ _ trivial⟩
  · exact ⟨0, fun m _ => .slice (a := some a) (b := some a) _ _ ⟨bet0_of h, rfl, rfl, Nat.zero_le _, Nat.zero_le _⟩⟩
  · exact ⟨a.block + 1, fun m hm => .sliceZ a (show a.block < m by omega)⟩
theorem bound_all {Q : Nat → Nat → Prop} (h : ∀ j, ∃ M, ∀ m, M ≤ m → Q j m) : ∀ N, ∃ M, ∀ m, M ≤ m → ∀ j, j < N → Q j m
  | 0 => ⟨0, fun m _ j hj => absurd hj (by omega)⟩
  | N + 1 => by
    obtain ⟨M1, h1⟩ := bound_all h N
    obtain ⟨M2, h2⟩ := h N
    refine ⟨M1 + M2, fun m hm j hj => ?_⟩
    rcases Nat.lt_or_ge j N with hl | hl
    · exact h1 m (by omega) j hl
    · obtain rfl : j = N := by omega
      exact h2 m (by omega)
def FG (w : World) (b o : Nat) (xs : List Int) : Prop := ∃ A n c, w.cell? ⟨b, o, none⟩ = some (.slice A n c) ∧ RJ w A n xs ∧ Fit w A n c
def RRG (w : World) (B : Option Addr) (m : Nat) (rs : List Ru) : Prop :=
  (rs.length = m ∧ m ≤ 9223372036854775807) ∧ (0 < m → ∃ b o, B = some ⟨b, o, none⟩ ∧ ∀ (j : Nat) (r : Ru), rs[j]? = some r → FG w b (o + j * 2) r.l ∧ FG w b (o + j * 2 + 1) r.r)
def RawG (w : World) (v : Value) (s : Sy) : Prop := ∃ A n c B m d, v = .agg #[.slice A n c, .slice B m d] ∧ RJ w A n s.ar ∧ Fit w A n c ∧ RRG w B m s.rs ∧ Fit w B m d
section
variable {H : Type} {enc : TypeId × Value → H} {P : Program} {w : World} {base b0 : Nat} {held : Bool} {r : Reach}
theorem raw_intsG {t e : TypeId} {fuel : Nat} {cs : List Value} {x : DataW H × List MemPlace} (ht : P.underlying t = some (.slice e)) (he : P.underlying e = some (.int .i64)) (hc : P.cellsOf e = 1)
    (h : DataW.trod enc P w base (fun _ => true) held fuel t cs = some x) : ∃ A n c xs, cs = [.slice A n c] ∧ RJ w A n xs ∧ Fit w A n c := by
  have h' := h
  obtain ⟨A, n, c, xs, e1, hr⟩ := raw_ints ht he hc h
  refine ⟨A, n, c, xs, e1, hr, ?_⟩
  rcases open_ints ht he hc h' with ⟨hcs, _⟩ | ⟨a, len, cap, zs, hcs, _, hl, hm, hz, _, hcell, hwf⟩
  · rw [hcs] at e1
    simp at e1
    exact .inl e1.1.symm
  · rw [hcs] at e1
    simp at e1
    obtain ⟨rfl, rfl, rfl⟩ := e1
    simp only [if_true] at hz
    rcases Nat.eq_zero_or_pos cap with h0 | h0
    · exact .inr ⟨a, rfl, .inr ⟨by omega, h0⟩⟩
    · exact Fit.of_cell (hcell 0 (by omega))
set_option maxRecDepth 100000 in
theorem raw_rulesG {fuel : Nat} {cs : List Value} {x : DataW H × List MemPlace} (h : DataW.trod enc Try.prog w base (fun _ => true) held fuel 40 cs = some x) : ∃ A n c rs, cs = [.slice A n c] ∧ RRG w A n rs ∧ Fit w A n c := by
  rcases open_slice_fields Try.underlying40 Try.underlying99 (by kernel_rfl) (by kernel_rfl) h with ⟨hcs, _⟩ | ⟨a, len, cap, m, D, Q, hcs, _, hl, hm, hmm, _, hi⟩
  · exact ⟨none, 0, 0, [], hcs, ⟨⟨rfl, by omega⟩, fun h => by omega⟩, .inl rfl⟩
  · simp only [if_true] at hmm
    have hone : ∀ i, ∃ p : Ru, i < len → (∃ A n c, w.cell? (a.add (i * 2)) = some (.slice A n c) ∧ RJ w A n p.l ∧ Fit w A n c) ∧ (∃ A n c, w.cell? (a.add (i * 2 + 1)) = some (.slice A n c) ∧ RJ w A n p.r ∧ Fit w A n c) := by
      intro i
      by_cases hlt : i < len
      · obtain ⟨ys, n, _, _, _, hf⟩ := hi i (by omega)
        obtain ⟨v0, y0, hc0, _, ht0⟩ := hf 0 _ rfl
        obtain ⟨v1, y1, hc1, _, ht1⟩ := hf 1 _ rfl
        obtain ⟨A, n0, c0, zs, e0, r0⟩ := raw_intsG Try.underlying27 Try.underlying2 (by kernel_rfl) ht0
        obtain ⟨B, n1, c1, xs, e1, r1⟩ := raw_intsG Try.underlying27 Try.underlying2 (by kernel_rfl) ht1
        simp at e0 e1
        subst e0 e1
        exact ⟨⟨zs, xs⟩, fun _ => ⟨⟨A, n0, c0, hc0, r0⟩, ⟨B, n1, c1, hc1, r1⟩⟩⟩
      · exact ⟨⟨[], []⟩, fun h => absurd h hlt⟩
    obtain ⟨f, hf⟩ := Classical.axiomOfChoice hone
    have hfit : Fit w (some a) len cap := by
      rcases Nat.eq_zero_or_pos cap with h0 | h0
      · exact .inr ⟨a, rfl, .inr ⟨by omega, h0⟩⟩
      · obtain ⟨ys, n, _, _, _, hf⟩ := hi 0 (by omega)
        obtain ⟨v0, y0, hc0, _, _⟩ := hf 0 _ rfl
        exact Fit.of_cell hc0
    refine ⟨some a, len, cap, (List.range len).map f, hcs, ⟨⟨by simp, by unfold maxLen at hm; omega⟩, fun hn => ?_⟩, hfit⟩
    obtain ⟨b, o, spot⟩ := a
    have hspot : spot = none := by
      obtain ⟨⟨A, n, c, h1, _⟩, _⟩ := hf 0 hn
      simpa [Addr.add] using World.cell?_spot h1
    subst hspot
    refine ⟨b, o, rfl, fun j p hp => ?_⟩
    rw [List.getElem?_map] at hp
    obtain ⟨i, hi', rfl⟩ := Option.map_eq_some_iff.1 hp
    obtain ⟨hl', rfl⟩ := List.getElem?_eq_some_iff.1 hi'
    rw [List.getElem_range]
    rw [List.length_range] at hl'
    have := hf j hl'
    rw [Addr.add_lit, Addr.add_lit] at this
    exact this
set_option maxRecDepth 100000 in
theorem raw_SyG {v : Value} {d : DataW H} {p : List MemPlace} (hv : Value.okWide Try.prog w r b0 42 v) (h : DataW.Trod enc Try.prog w base (fun _ => true) held 42 v d p) : ∃ x, RawG w v x := by
  obtain ⟨v0, v1, y0, y1, n, rfl, _, _, h0, h1⟩ := open_agg2 Try.underlying42 (by kernel_rfl) (by kernel_rfl) hv h
  obtain ⟨xs, n', _, _, _, hlen, hg⟩ := DataW.trod_struct Try.underlying39 h0
  have h00 := hg 0 _ rfl
  obtain ⟨B, m, c1, rs, e1, r1⟩ := raw_rulesG h1
  match xs, hlen, h00 with
  | [x0], _, h00 =>
    have h01 : DataW.trod enc Try.prog w base (fun _ => true) held n' 27 [v0] = some x0 := h00
    obtain ⟨A, n0, c0, zs, e0, r0⟩ := raw_intsG Try.underlying27 Try.underlying2 (by kernel_rfl) h01
    simp at e0 e1
    subst e0 e1
    exact ⟨⟨zs, rs⟩, A, n0, c0, B, m, c1, rfl, r0.1, r0.2, r1.1, r1.2⟩
end
section
variable {W v : World} {m : Nat} {A : Option Addr} {n c : Nat}
theorem RJ.ghost (hk : ∀ (p : Addr) (x : Value), W.cell? p = some x → VRel (LM m) (bet0 W) x x → v.cell? p = some x) {xs : List Int} (h : RJ W A n xs) : RJ v A n xs :=
  ⟨h.1, fun hn => by
    obtain ⟨b, o, e, hc⟩ := h.2.1 hn
    exact ⟨b, o, e, fun j x hx => hk _ _ (hc j x hx) (.int _ _)⟩, h.2.2⟩
theorem RRG.rel {rs : List Ru} (h : RRG W A n rs) : ∃ M, ∀ m, M ≤ m → ∀ v : World, (∀ (p : Addr) (x : Value), W.cell? p = some x → VRel (LM m) (bet0 W) x x → v.cell? p = some x) → RRJ v A n rs := by
  rcases Nat.eq_zero_or_pos n with h0 | h0
  · exact ⟨0, fun m _ v _ => ⟨h.1, fun hn => absurd hn (by omega)⟩⟩
  obtain ⟨b, o, e, hc⟩ := h.2 h0
  have one : ∀ off xs, FG W b off xs → ∃ M, ∀ m, M ≤ m → ∀ v : World, (∀ (p : Addr) (x : Value), W.cell? p = some x → VRel (LM m) (bet0 W) x x → v.cell? p = some x) → FJ v b off xs := fun off xs ⟨A', n', c', k1, k2, k3⟩ => by
    obtain ⟨M, hM⟩ := k3.rel
    exact ⟨M, fun m hm v hk => ⟨A', n', c', hk _ _ k1 (hM m hm), k2.ghost hk⟩⟩
  obtain ⟨M, hM⟩ := bound_all (Q := fun j m => ∀ v : World, (∀ (p : Addr) (x : Value), W.cell? p = some x → VRel (LM m) (bet0 W) x x → v.cell? p = some x) → ∀ r, rs[j]? = some r → FJ v b (o + j * 2) r.l ∧ FJ v b (o + j * 2 + 1) r.r) (fun j => by
    cases hr : rs[j]? with
    | none => exact ⟨0, fun m _ v _ r e => by cases e⟩
    | some r =>
      obtain ⟨h1, h2⟩ := hc j r hr
      obtain ⟨M1, k1⟩ := one _ _ h1
      obtain ⟨M2, k2⟩ := one _ _ h2
      exact ⟨M1 + M2, fun m hm v hk r' e => by cases e; exact ⟨k1 m (by omega) v hk, k2 m (by omega) v hk⟩⟩) n
  refine ⟨M, fun m hm v hk => ⟨h.1, fun hn => ⟨b, o, e, fun j r hr => hM m hm j ?_ v hk r hr⟩⟩⟩
  have := (List.getElem?_eq_some_iff.1 hr).1
  have := h.1.1
  omega
theorem start_ghost {v0 : Value} {s : Sy} (h : RawG W v0 s) : ∃ m v A n c B k d, v0 = .agg #[.slice A n c, .slice B k d] ∧ VRel (LM m) (bet0 W) v0 v0 ∧ m ≤ v.heap.size ∧ WRel (LM m) (bet0 W) v W ∧ RJ v A n s.ar ∧ RRJ v B k s.rs := by
  obtain ⟨A, n, c, B, k, d, rfl, h1, h2, h3, h4⟩ := h
  obtain ⟨M1, k1⟩ := h2.rel
  obtain ⟨M2, k2⟩ := h3.rel
  obtain ⟨M3, k3⟩ := h4.rel
  obtain ⟨v, q1, q2, q3⟩ := ghost_start (LM (M1 + M2 + M3)) rfl W
  refine ⟨M1 + M2 + M3, v, A, n, c, B, k, d, rfl, ?_, ?_, q2, h1.ghost q3, k2 _ (by omega) v q3⟩
  · refine .agg rfl fun i u y e1 e2 => ?_
    rw [e1] at e2; cases e2
    rcases i with _ | _ | i
    · simp at e1; subst e1; exact k1 _ (by omega)
    · simp at e1; subst e1; exact k3 _ (by omega)
    · simp at e1
  · rw [q1]
    show M1 + M2 + M3 ≤ W.heap.size + (M1 + M2 + M3)
    omega
end
end Go.Proofs.Ytibeelcnooelkaa
namespace Go.Proofs.Ytibeelcnooelkaa
open Go.Conc Go.RowKit
set_option linter.unusedVariables false
set_option linter.unusedSimpArgs false
set_option maxRecDepth 100000
theorem bWn : ∃ f, Try.prog.funcs[(base 5).fn]? = some f := ⟨_, Try.func5⟩
theorem tres_W : TmpRes Try.f5 := tmpB_ok (P := Try.prog) (k := 5) (by kernel_rfl) _ Try.func5
theorem okA {m : Nat} : ∀ c ∈ [lw0, lw1, lw2, lw3, lw4, lw5], CodeOK Try.prog (LM m) c := by
  intro c hc
  simp only [List.mem_cons, List.not_mem_nil, or_false] at hc
  rcases hc with rfl | rfl | rfl | rfl | rfl | rfl <;> exact codeB_ok (fun _ h => h) (fun _ h => h) (by kernel_rfl)
theorem okB {m : Nat} : ∀ c ∈ [lw7, lw8, lw9, lw10, lw11, lw12, lw13, lw14, lw15, lw16, lw17], CodeOK Try.prog (LM m) c := by
  intro c hc
  simp only [List.mem_cons, List.not_mem_nil, or_false] at hc
  rcases hc with rfl | rfl | rfl | rfl | rfl | rfl | rfl | rfl | rfl | rfl | rfl <;> exact codeB_ok (fun _ h => h) (fun _ h => h) (by kernel_rfl)
theorem okC {m : Nat} : CodeOK Try.prog (LM m) lwC := codeB_ok (fun _ h => h) (fun _ h => h) (by kernel_rfl)
theorem leaveW {a : Act} {y : Value} (h : a.tmps[2]? = some y) (u : World) : (results Try.f5 a.tmps).run Try.prog u = .ok y u := by
  rw [results_tmp (fn := Try.f5) (t := 2) rfl]
  simp [h]
def Rw (v0 : World) (a : Act) (v : World) : Prop := a.tmps.size = 96 ∧ a.tmps[2]? = some (.bool true) ∧ Hx v0 v
theorem Rw.ins {v0 : World} : Ins (Rw v0) := fun a v τ d h => h
section
variable {m : Nat} {A : An} {Post : Value → World → Prop} {x0 : Sy} {PA0 PB0 : Option Addr} {pn0 pc0 pm0 pd0 : Nat}
theorem ret_w (post : ∀ γ v w O, Hx A.v v → WRel (LM m) γ v w → Acc A.O A.β A.v A.w O γ v w → Post (.bool true) w) {Stop : Set_ → Goroutine → World → Prop} (hS : ∀ O g w, AtEnd_ Try.prog Post g w → Stop O g w) :
    WkR Try.prog (LM m) true Stop A (base 5) [] (Rw A.v) := by
  refine WkR.done (fn := Try.f5) bW (by kernel_rfl) Try.func5 tres_W hS (R := fun x v => x = .bool true ∧ Hx A.v v) (fun a v h => ⟨.bool true, leaveW h.2.1, rfl, h.2.2⟩) (fun γ x y v w O h hxy hW hn hA => ?_)
  obtain ⟨rfl, hH⟩ := h
  have : y = .bool true := by
    generalize hx : Value.bool true = x at hxy
    cases hxy <;> cases hx
    rfl
  subst this
  exact post γ v w O hH hW hA
theorem law_wk (hJ : RJ A.v PA0 pn0 x0.ar) (hK : RRJ A.v PB0 pm0 x0.rs) (post : ∀ γ v w O, Hx A.v v → WRel (LM m) γ v w → Acc A.O A.β A.v A.w O γ v w → Post (.bool true) w) :
    Wk Try.prog (LM m) true (ScrS Try.prog Post 1) A (base 5) [] [.code bodyW] (fun a v => a = litW (.agg #[.slice PA0 pn0 pc0, .slice PB0 pm0 pd0]) ∧ Hx A.v v) := by
  rw [bodyW_eq]
  refine Wk.codes (pcs := [lw0, lw1, lw2, lw3, lw4, lw5]) (X m) (offs_scr 1) okA bW bWn (Ψ := La A.v x0 PA0 pn0 pc0 PB0 pm0 pd0) (Ρ := Rw A.v) (fun a v τ d h => h) La.ins Rw.ins (fun a v h hd => ?_) ?_ (ret_w post fun _ _ _ => .inl)
  · obtain ⟨rfl, hH⟩ := h
    exact chunkA hH hJ hK
  refine Wk.seq (law7 (StA := ScrS Try.prog Post 0) (offs_scr 0) (offs_scr 1) rfl scrS_mono ?_)
  refine Wk.codes (pcs := [lw7, lw8, lw9, lw10, lw11, lw12, lw13, lw14, lw15, lw16, lw17]) (X m) (offs_scr 0) okB bW bWn (Ψ := Lc A.v x0 PA0 pn0 pc0 PB0 pm0 pd0) (Ρ := Rw A.v) (fun a v τ d h => h) Lc.ins Rw.ins (fun a v h hd => chunkB h hd) ?_ (ret_w post fun _ _ _ => .inl)
  refine Wk.seq (law18 (StA := fun _ g w => AtEnd_ Try.prog Post g w) offs_end (offs_scr 0) rfl (fun _ _ _ => .inl) ?_)
  exact Wk.code (X m) offs_end okC bW bWn (Ψ := fun _ _ => False) (Ρ := Rw A.v) (fun a v τ d h => h) Ins.f Rw.ins (fun a v h hd => chunkC h hd) (fun γ ag a v w O hp => hp.elim) (ret_w post fun _ _ _ h => h)
end
theorem litW_eq (x : Value) : (litW x).tmps = #[x] ++ Array.replicate 95 undef := by
  apply Array.ext'
  rw [Array.toList_append, Array.toList_replicate]
  rfl
theorem law_script {W : World} {v0 : Value} {x0 : Sy} (h : RawG W v0 x0) : Script_ Try.prog (fun v w => v = .bool true ∧ Below W.heap.size W w) 2 (fun x => x < W.heap.size) (G (Frame.enter Try.prog 5 #[v0] .normal) []) W := by
  obtain ⟨m, v, PA0, pn0, pc0, PB0, pm0, pd0, rfl, hv, hm, hW, hJ, hK⟩ := start_ghost h
  rw [enter_at _ Try.func5 (c := bodyW) rfl]
  refine law_wk (m := m) (A := ⟨fun x => x < W.heap.size, bet0 W, v, W⟩) hJ hK (fun γ v' w O hH hW' hA => ⟨rfl, real_end hm hW hW' hH hA⟩) (bet0 W) (litW (.agg #[.slice PA0 pn0 pc0, .slice PB0 pm0 pd0])) _ v W (fun x => x < W.heap.size) ⟨rfl, Hx.refl _⟩ rfl rfl ?_ hW (fun k x e => ?_) (Acc.refl _ _ _ _)
  · rw [litW_eq]
    refine VsRel.append (VsRel.one hv) ⟨by simp [Try.ntmps5], fun i v w h1 h2 => ?_⟩
    have e1 := Array.mem_of_getElem? h1
    have e2 := Array.mem_of_getElem? h2
    rw [(Array.mem_replicate.1 e1).2, (Array.mem_replicate.1 e2).2]
    exact undef_rel
  · obtain ⟨rfl, d, T, f, e⟩ := bet0_inv e
    exact lt_of_heap e
end Go.Proofs.Ytibeelcnooelkaa
