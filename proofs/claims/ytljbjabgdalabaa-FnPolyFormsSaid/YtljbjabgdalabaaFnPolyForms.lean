/- Proved: for every input the law FnPolyForms returns true, does not panic, and its argument reads afterwards as it read before. Conditions: none. -/
import Derived.Test.YtljbjabgdalabaaHeld
import Derived.Test.YtljbjabgdalabaaOpenBy
import Derived.Test.YtljbjabgdalabaaFx
import Derived.Test.YtljbjabgdalabaaFilB
import Derived.Test.YtljbjabgdalabaaStrict
-- rd: RdPs
namespace Go.Proofs.Ytljbjabgdalabaa.FnPolyForms
open Go.ChangeShapes Go.WideShapes Go.ChangeAt Go.RowKit
set_option linter.unusedSimpArgs false
set_option linter.unusedVariables false
set_option linter.constructorNameAsVariable false

theorem gr_cf {ps : List Pl} {u : Tm} {f : Pl} (hg : ∀ z ∈ u.flat, 0 ≤ z) (hf : form ps u = some f) : f.cf = [] := by
  have := form_len (m := 0) u (fun x hx => by have := hg x hx; omega) hf
  exact List.length_eq_zero_iff.1 (by omega)
theorem gr_val {f : Pl} (h : f.cf = []) (vs : List Int) (n : Nat) : vsum f vs n = f.c := by
  obtain ⟨c, cf⟩ := f
  have h' : cf = [] := h
  subst h'
  exact vsum_const c vs n
theorem form_O {ps : List Pl} {u : Tm} (hP : PolysP arD ps) (ht : TermP arD u.flat) (ho : u.Ok arD) : formO arD ps u.flat = form ps u := by
  rw [formO_t (by rw [polysOk_iff.2 hP, termOk_iff.2 ht]; rfl), tmOf_flat ho]
theorem gr_valAt {ps : List Pl} {u : Tm} {f : Pl} {vs : List Int} (hP : PolysP arD ps) (ht : TermP arD u.flat) (ho : u.Ok arD) (hg : ∀ z ∈ u.flat, 0 ≤ z) (hf : form ps u = some f) (hb : f.c ≤ 1000000000000) (hvs : ValsOk vs) :
    valOk arD ps u.flat vs = true ∧ valAt arD ps u.flat vs = f.c := by
  have e := (form_O hP ht ho).trans hf
  have := val_ok (n := vs.length) e hvs rfl (by rw [gr_val (gr_cf hg hf)]; exact hb)
  rw [gr_val (gr_cf hg hf)] at this
  exact this
theorem fill_le {h : Int → List Int} : ∀ {t : List Int}, (∀ x ∈ t, x < 0 → (h x).length ≤ 3) → (fill h t).length ≤ 3 * t.length
  | [], _ => by simp [fill_nil]
  | x :: t, e => by
    have ih := fill_le (t := t) fun y hy => e y (List.mem_cons_of_mem _ hy)
    rw [fill_cons, List.length_append, List.length_cons]
    by_cases h0 : x < 0
    · rw [if_pos h0]; have := e x List.mem_cons_self h0; omega
    · rw [if_neg h0]; simp; omega
/-- A ground list of two for the variables. -/
structure Two (u0 u1 : Tm) : Prop where
  o0 : u0.Ok arD
  o1 : u1.Ok arD
  l0 : u0.flat.length ≤ 3
  l1 : u1.flat.length ≤ 3
  g0 : ∀ z ∈ u0.flat, 0 ≤ z
  g1 : ∀ z ∈ u1.flat, 0 ≤ z
theorem ne_flat (u : Tm) : u.flat ≠ [] := fun e => by have := flat_pos u; rw [e] at this; simp at this
theorem Two.sub {u0 u1 : Tm} (h : Two u0 u1) : SubP arD [u0.flat, u1.flat] := by
  refine ⟨by simp, fun t ht _ => ?_⟩
  simp only [List.mem_cons, List.not_mem_nil, or_false] at ht
  rcases ht with rfl | rfl
  · exact termD h.o0 (by have := h.l0; omega) (fun x hx => by have := h.g0 x hx; omega)
  · exact termD h.o1 (by have := h.l1; omega) (fun x hx => by have := h.g1 x hx; omega)
theorem Two.at_ {u0 u1 : Tm} (h : Two u0 u1) {q : Int} (hq : q < 0) (h2 : -2 ≤ q) : (q = -1 ∧ gives [u0.flat, u1.flat] q = u0.flat ∧ givT arD [u0.flat, u1.flat] q = u0) ∨ (q = -2 ∧ gives [u0.flat, u1.flat] q = u1.flat ∧ givT arD [u0.flat, u1.flat] q = u1) := by
  have hq' : q = -1 ∨ q = -2 := by omega
  rcases hq' with rfl | rfl
  · have e : gives [u0.flat, u1.flat] (-1) = u0.flat := gives_yes rfl (ne_flat u0)
    exact .inl ⟨rfl, e, by unfold givT; rw [e]; exact tmOf_flat h.o0⟩
  · have e : gives [u0.flat, u1.flat] (-2) = u1.flat := gives_yes rfl (ne_flat u1)
    exact .inr ⟨rfl, e, by unfold givT; rw [e]; exact tmOf_flat h.o1⟩
/-- What is known of a filled term. -/
theorem filled {ps : List Pl} (hS : Sm ps) (hP : PolysP arD ps) {u0 u1 t : Tm} (h : Two u0 u1) (ot : t.Ok arD) (lt : t.flat.length ≤ 7) (gt : ∀ z ∈ t.flat, -2 ≤ z) {x y : Int}
    (hx : ∀ vs n, ev ps (hv vs n) u0 = x) (hy : ∀ vs n, ev ps (hv vs n) u1 = y) :
    ∃ (V : Tm) (k : Pl), fillO [u0.flat, u1.flat] t.flat = some V.flat ∧ V.Ok arD ∧ TermP arD V.flat ∧ (∀ z ∈ V.flat, 0 ≤ z) ∧ form ps V = some k ∧ Upto (p3 10) k ∧ k.cf = [] ∧ k.c = ev ps (hv [x, y] 2) t := by
  obtain ⟨o1, f1⟩ := fill_tree h.sub ot
  have hl : (fill (gives [u0.flat, u1.flat]) t.flat).length ≤ 60 := by
    have := fill_le (h := gives [u0.flat, u1.flat]) (t := t.flat) fun z hz h0 => by
      rcases h.at_ h0 (gt z hz) with ⟨_, e, _⟩ | ⟨_, e, _⟩ <;> rw [e]
      · exact h.l0
      · exact h.l1
    omega
  have hg : ∀ z ∈ (t.sub (givT arD [u0.flat, u1.flat])).flat, 0 ≤ z := by
    rw [f1]
    intro z hz
    unfold fill at hz
    obtain ⟨q, hq1, hq2⟩ := List.mem_flatMap.1 hz
    by_cases h0 : q < 0
    · rw [if_pos h0] at hq2
      rcases h.at_ h0 (gt q hq1) with ⟨_, e, _⟩ | ⟨_, e, _⟩ <;> rw [e] at hq2
      · exact h.g0 z hq2
      · exact h.g1 z hq2
    · rw [if_neg h0, List.mem_singleton] at hq2; omega
  obtain ⟨_, k, hk, hu⟩ := fu_sub hS (E := 3) (g := givT arD [u0.flat, u1.flat]) t ot (fun q hq h0 => by
    rcases h.at_ h0 (gt q hq) with ⟨_, _, e⟩ | ⟨_, _, e⟩ <;> rw [e]
    · exact (fu_self hS h.o0 (by have := h.l0; omega)).mono (by have := h.l0; omega) (by omega)
    · exact (fu_self hS h.o1 (by have := h.l1; omega)).mono (by have := h.l1; omega) (by omega)) (by omega)
  refine ⟨t.sub (givT arD [u0.flat, u1.flat]), k, by rw [f1]; exact fillO_some hl, o1, termD o1 (by rw [f1]; exact hl) (fun z hz => by have := hg z hz; omega), hg, hk, hu.mono (p3_mono (by omega)), gr_cf hg hk, ?_⟩
  have e1 : vsum k [] 0 = ev ps (hv [] 0) (t.sub (givT arD [u0.flat, u1.flat])) := form_ev _ hk
  rw [gr_val (gr_cf hg hk), ev_sub] at e1
  rw [e1]
  refine ev_congr t fun q hq h0 => ?_
  rcases h.at_ h0 (gt q hq) with ⟨rfl, _, e⟩ | ⟨rfl, _, e⟩ <;> rw [e]
  · rw [hx]; rfl
  · rw [hy]; rfl
/-- What the law says, on numbers. -/
structure Law (ps : List Pl) (a b u0 u1 : Tm) (f : Pl) (x y z : Int) (S W : List Int) : Prop where
  f1 : formO arD ps b.flat = some f
  f2 : f.cf.length ≤ 2
  f3 : Fm f
  x1 : valAt arD ps u0.flat [] = x
  x2 : valOk arD ps u0.flat [] = true
  y1 : valAt arD ps u1.flat [] = y
  y2 : valOk arD ps u1.flat [] = true
  xb : 0 ≤ x ∧ x ≤ 1000
  yb : 0 ≤ y ∧ y ≤ 1000
  w1 : fillO [u0.flat, u1.flat] b.flat = some W
  s1 : fillO [u0.flat, u1.flat] a.flat = some S
  z1 : valAt arD ps W [9] = z
  z2 : valOk arD ps W [9] = true
  z3 : z = vsum f [x, y] f.cf.length
  st : strictIn arD ps = true
  ls : cmpLess (formO arD ps a.flat) (formO arD ps b.flat) = true → cmpLess (formO arD ps S) (formO arD ps W) = true ∧ cmpLess (formO arD ps (1 :: a.flat)) (formO arD ps (1 :: b.flat)) = true
theorem head_form {ps : List Pl} (hS : Sm ps) {t : Tm} {f : Pl} {e : Nat} (he : 1 ≤ e ∧ e ≤ 24) (hf : form ps t = some f) (hu : Upto (p3 e) f) : form ps (.node 1 [t]) = some (addP ⟨(ps.getD 1 ⟨0, []⟩).c, []⟩ f ((ps.getD 1 ⟨0, []⟩).cf.getD 0 0)) := by
  obtain ⟨_, g, hg, _⟩ := fu_node hS (E := 0) (x := 1) (by omega) (us := [t]) (es := [e]) (by simp) rfl (fun j u e' h1 h2 => by
    cases j with
    | zero => cases h1; cases h2; exact ⟨he.1, f, hf, by rw [Nat.zero_add]; exact hu⟩
    | succ j => simp at h1) (by simp; omega)
  rw [hg]
  rw [form_node, if_neg (by omega), formL_cons, formL_nil, hf] at hg
  have := appP_some (p := ps.getD 1 ⟨0, []⟩) (fs := [f]) hg
  rw [this]; rfl
theorem law {ps : List Pl} (h3 : Ps3 1 ps) {a b u0 u1 : Tm} (h : Two u0 u1) (oa : a.Ok arD) (ob : b.Ok arD) (la : a.flat.length ≤ 7) (lb : b.flat.length ≤ 7) (ga : ∀ z ∈ a.flat, -2 ≤ z) (gb : ∀ z ∈ b.flat, -2 ≤ z) :
    ∃ (f : Pl) (x y z : Int) (S W : List Int), Law ps a b u0 u1 f x y z S W := by
  have hS := ps3_sm h3 (by omega)
  have hP := ps3_ok h3 (by omega)
  have ta : TermP arD a.flat := termD oa (by omega) (fun z hz => by have := ga z hz; omega)
  have tb : TermP arD b.flat := termD ob (by omega) (fun z hz => by have := gb z hz; omega)
  have t0 : TermP arD u0.flat := termD h.o0 (by have := h.l0; omega) (fun z hz => by have := h.g0 z hz; omega)
  have t1 : TermP arD u1.flat := termD h.o1 (by have := h.l1; omega) (fun z hz => by have := h.g1 z hz; omega)
  obtain ⟨_, fa, efa, ufa⟩ := fu_self hS oa (by omega)
  obtain ⟨_, f, ef, uf⟩ := fu_self hS ob (by omega)
  obtain ⟨_, k0, ek0, uk0⟩ := fu_self hS h.o0 (by have := h.l0; omega)
  obtain ⟨_, k1, ek1, uk1⟩ := fu_self hS h.o1 (by have := h.l1; omega)
  rw [Nat.zero_add] at ufa uf uk0 uk1
  have b3 : p3 3 = 27 := by decide
  have b10 : p3 10 = 59049 := by decide
  have uk0' := uk0.mono (p3_mono h.l0)
  have uk1' := uk1.mono (p3_mono h.l1)
  have uf7 := uf.mono (p3_mono lb)
  have ufa7 := ufa.mono (p3_mono la)
  have hx : ∀ vs n, ev ps (hv vs n) u0 = k0.c := fun vs n => by rw [← form_ev u0 ek0, gr_val (gr_cf h.g0 ek0)]
  have hy : ∀ vs n, ev ps (hv vs n) u1 = k1.c := fun vs n => by rw [← form_ev u1 ek1, gr_val (gr_cf h.g1 ek1)]
  obtain ⟨W, kw, w1, ow, tw, gw, ew, uw, cw, vw⟩ := filled hS hP h ob lb gb hx hy
  obtain ⟨S, ks, s1, os, ts, gs, es, us, cs, vs⟩ := filled hS hP h oa la ga hx hy
  have hb0 := uk0'.1
  have hb1 := uk1'.1
  rw [b3] at hb0 hb1
  have hvn : ∀ k, 0 ≤ nth [k0.c, k1.c] k := fun k => by
    match k with
    | 0 => exact hb0.1
    | 1 => exact hb1.1
    | k + 2 => simp [nth]
  have p7 := p3_pos 7
  have ufw := uw.1
  have V0 : ValsOk [] := ⟨by simp, fun x hx => by cases hx⟩
  have V9 : ValsOk [9] := ⟨by simp, fun x hx => by simp only [List.mem_cons, List.not_mem_nil, or_false] at hx; omega⟩
  have r0 := gr_valAt (vs := []) hP t0 h.o0 h.g0 ek0 (by omega) V0
  have r1 := gr_valAt (vs := []) hP t1 h.o1 h.g1 ek1 (by omega) V0
  have rw' := gr_valAt (vs := [9]) hP tw ow gw ew (by omega) V9
  have flen := form_len (m := 2) b (fun z hz => by have := gb z hz; omega) ef
  refine ⟨f, k0.c, k1.c, kw.c, S.flat, W.flat, ?_⟩
  refine { f1 := (form_O hP tb ob).trans ef, f2 := flen, f3 := ⟨uf7.mono (fin3 (by omega)), by omega⟩, x1 := r0.2, x2 := r0.1, y1 := r1.2, y2 := r1.1, xb := by omega, yb := by omega, w1 := w1, s1 := s1, z1 := rw'.2, z2 := rw'.1, z3 := ?_, st := ?_, ls := ?_ }
  · rw [vw, ← form_ev b ef]
    exact vsum_past (Nat.le_refl _) 2 flen
  · refine strictIn_t (polysOk_iff.2 hP) ?_
    obtain ⟨c0, a0, a1, c1, b0, c2, rfl, q0, q1, q2, q3, q4, q5⟩ := h3
    intro p hp x hx
    simp only [List.mem_cons, List.not_mem_nil, or_false] at hp
    rcases hp with rfl | rfl | rfl <;> simp only [List.mem_cons, List.not_mem_nil, or_false] at hx <;> omega
  · rw [form_O hP ta oa, form_O hP tb ob, form_O hP ts os, form_O hP tw ow, efa, ef, es, ew]
    intro hl
    refine ⟨?_, ?_⟩
    · have h5 := (cmp_vals (a := fa) (b := f) (vs := [k0.c, k1.c]) (fun j => (uf7.nth (by omega) j).1) hvn 2).2 hl
      rw [form_ev a efa, form_ev b ef, ← vs, ← vw] at h5
      unfold cmpLess
      simp only [Bool.and_eq_true, decide_eq_true_eq]
      exact ⟨most_t fun j x hj _ => by rw [cs] at hj; simp at hj, h5⟩
    · have e1 : (Tm.node 1 [a]).flat = 1 :: a.flat := by rw [flat_node, flatL_cons, flatL_nil, List.append_nil]
      have e2 : (Tm.node 1 [b]).flat = 1 :: b.flat := by rw [flat_node, flatL_cons, flatL_nil, List.append_nil]
      have o1 : (Tm.node 1 [a]).Ok arD := Ok_node.2 ⟨rfl, OkL_cons.2 ⟨oa, by simp [OkL]⟩⟩
      have o2 : (Tm.node 1 [b]).Ok arD := Ok_node.2 ⟨rfl, OkL_cons.2 ⟨ob, by simp [OkL]⟩⟩
      have q1 : TermP arD (Tm.node 1 [a]).flat := termD o1 (by rw [e1]; simp; omega) (fun z hz => by
        rw [e1] at hz
        rcases List.mem_cons.1 hz with rfl | hz
        · omega
        · have := ga z hz; omega)
      have q2 : TermP arD (Tm.node 1 [b]).flat := termD o2 (by rw [e2]; simp; omega) (fun z hz => by
        rw [e2] at hz
        rcases List.mem_cons.1 hz with rfl | hz
        · omega
        · have := gb z hz; omega)
      rw [← e1, ← e2, form_O hP q1 o1, form_O hP q2 o2, head_form hS (by omega) efa ufa7, head_form hS (by omega) ef uf7]
      have hm : 1 ≤ (ps.getD 1 ⟨0, []⟩).cf.getD 0 0 := by
        obtain ⟨c0, a0, a1, c1, b0, c2, rfl, q0, q1, q2, q3, q4, q5⟩ := h3
        exact q5.1
      generalize (ps.getD 1 ⟨0, []⟩).cf.getD 0 0 = m at hm ⊢
      generalize (ps.getD 1 ⟨0, []⟩).c = c
      unfold cmpLess at hl ⊢
      simp only [Bool.and_eq_true, decide_eq_true_eq] at hl ⊢
      have hM : Most fa f := by have := hl.1; unfold most at this; simpa using this
      refine ⟨most_t fun j x hj hx => ?_, ?_⟩
      · have e3 : x = m * nth fa.cf j := by
          have e4 : (addL [] fa.cf m).getD j 0 = ([] : List Int).getD j 0 + m * fa.cf.getD j 0 := addL_get [] fa.cf m j
          have e5 : (addL [] fa.cf m)[j]? = some x := hx
          rw [List.getD_eq_getElem?_getD, e5] at e4
          simpa [nth] using e4
        have e6 : nth (addL [] f.cf m) j = m * nth f.cf j := by
          have e4 : (addL [] f.cf m).getD j 0 = ([] : List Int).getD j 0 + m * f.cf.getD j 0 := addL_get [] f.cf m j
          simpa [nth] using e4
        show x ≤ nth (addL [] f.cf m) j
        rw [e3, e6]
        refine Int.mul_le_mul_of_nonneg_left ?_ (by omega)
        rcases hj2 : fa.cf[j]? with _ | v
        · have : nth fa.cf j = 0 := by unfold nth; rw [List.getD_eq_getElem?_getD, hj2]; rfl
          rw [this]; exact (uf7.nth (by omega) j).1
        · have : nth fa.cf j = v := by unfold nth; rw [List.getD_eq_getElem?_getD, hj2]; rfl
          rw [this]; exact hM j v hj2
      · show c + m * fa.c < c + m * f.c
        have := Int.mul_lt_mul_of_pos_left hl.2 (show 0 < m by omega)
        omega

theorem c_formB {v0 v1 v2 : Value} {ar t : List Int} {ps : List Pl} {f : Pl} {w : World} (hf : formO ar ps t = some f) (h0 : RdSig w v0 ar) (h1 : RdPs w v1 ps) (h2 : RdI w v2 t) :
    Calls Try.prog 11 #[v0, v1, v2] w fun e w' => ∃ A n c, e = .returned (.tuple #[.agg #[.int .i64 f.c, .slice A n c], .bool true]) ∧ RI w' A n f.cf ∧ Ext w w' :=
  (c_iFormOf h0 h1 h2).mono fun e w' h => by
    obtain ⟨A, n, c, he, ho, hx⟩ := h
    rw [hf] at he ho
    exact ⟨A, n, c, he, ho.ri, hx⟩
theorem c_filledB {v0 v1 : Value} {A : Option Addr} {n c : Nat} {ar : List Int} {σ : List (List Int)} {t l : List Int} {w : World} (ho : fillO σ t = some l) (hσ : SubP ar σ) (ht : TermP ar t) (h0 : RdSig w v0 ar) (h1 : RdSub w v1 σ) (h2 : RI w A n t) :
    Calls Try.prog 13 #[v0, v1, .slice A n c] w fun e w' => ∃ B m d, e = .returned (.tuple #[.slice B m d, .bool true]) ∧ RI w' B m l ∧ Ext w w' :=
  (c_Filled ho hσ ht h0 h1 h2).mono fun e w' h => by
    obtain ⟨B, m, d, he, hO, hx⟩ := h
    exact ⟨B, m, d, he, hO.ri, hx⟩
theorem c_strictB {v0 v1 : Value} {ar : List Int} {ps : List Pl} {b : Bool} {w : World} (hb : strictIn ar ps = b) (h0 : RdSig w v0 ar) (h1 : RdPs w v1 ps) :
    Calls Try.prog 14 #[v0, v1] w fun e w' => e = .returned (.bool b) ∧ Ext w w' := by subst hb; exact c_iStrictIn h0 h1
theorem c_polyLessB {v0 v1 v2 v3 : Value} {ar : List Int} {ps : List Pl} {s t : List Int} {b : Bool} {w : World} (hb : cmpLess (formO ar ps s) (formO ar ps t) = b) (h0 : RdSig w v0 ar) (h1 : RdPs w v1 ps) (h2 : RdI w v2 s) (h3 : RdI w v3 t) :
    Calls Try.prog 15 #[v0, v1, v2, v3] w fun e w' => e = .returned (.bool b) ∧ Ext w w' := by subst hb; rw [← cmpLess_O]; exact c_iPolyLess h0 h1 h2 h3
theorem one_of {w0 W : World} (h : Ext w0 W) : ∀ s, s = W.heap.size → RI (W.alloc (.cells #[.int .i64 1] 2)) (some ⟨s, 0, none⟩) 1 [1] := fun s e => by subst e; exact (OwI.fresh (w := W) [1] (by simp)).ri
/-- Elements are appended to a full row: a new one. -/
theorem wp_append_full {P : Program} {w : World} {o : Oper} {a : Act} {K : Act → World → Prop} {Q : Exit → Act → World → Prop} (s x : Operand) (t : TypeId)
    (ho : o.op = .call { callee := .builtin .append, args := #[s, x], argTypes := #[t, t] }) (i : TypeInfo) (ht : P.underlying t = some (.slice 2)) (hi : P.info? 2 = some i) (hz : i.zero = some (.int .i64 0))
    (hsize : i.size = 1) (hby : i.bytes = 8) {n m d g : Nat} {B : Option Addr} {xs ys : List Int} (hs : a.eval s = .slice (some ⟨g, 0, none⟩) n n) (ha : RI w (some ⟨g, 0, none⟩) n xs) (hx : a.eval x = .slice B m d) (hb : RI w B m ys) (hm : 0 < m) (hnm : n + m ≤ 4194304)
    (hK : ∀ A' c' w', OwI w' w.heap.size A' (n + m) c' (xs ++ ys) → Ext w w' → K (a.put o.dst (.slice A' (n + m) c')) w') : o.wp P a w K Q := by
  obtain ⟨b', q, rfl, hcell⟩ := hb.2 hm
  have hle := hb.le
  obtain ⟨v', w', hrun, r1, r2⟩ := run_append_arg_grows (P := P) w t o.type 2 i (.int .i64 0) 1 8 ht hi hz hsize hby rfl (by decide) ⟨g, 0, none⟩ n n (xs.map (Value.int .i64)) (by rw [List.length_map, ha.len, Nat.mul_one])
    (fun j u hu => by
      rw [List.getElem?_map] at hu
      obtain ⟨y, hy, rfl⟩ := Option.map_eq_some_iff.1 hu
      obtain ⟨b2, o2, e2, hc2⟩ := ha.2 (by have := (List.getElem?_eq_some_iff.1 hy).1; have := ha.len; omega)
      cases e2
      rw [Addr.add_lit]; exact hc2 j y hy) ⟨b', q, none⟩ m d (ys.map (Value.int .i64)) (by rw [List.length_map, hb.len, Nat.mul_one])
    (fun j u hu => by
      rw [List.getElem?_map] at hu
      obtain ⟨y, hy, rfl⟩ := Option.map_eq_some_iff.1 hu
      rw [Addr.add_lit]; exact hcell j y hy)
    (by omega) (by unfold maxLen; omega) (by omega)
  rw [← List.map_append] at r1
  obtain ⟨g', cap, rfl, _, _⟩ := World.ownsRow.form r1 (by omega)
  unfold Oper.wp
  simp only [execOp, ho, resolve, invoke, builtin, Sem.run_bind, Sem.run_pure, Result.andThen_ok, List.map_toArray, List.map_cons, List.map_nil, hs, hx, hrun]
  exact hK _ _ _ ⟨hnm, r1⟩ (Ext.grown (Ext.refl w) r2 (fun k hk => by cases hk))
theorem wpList_append_full {P : Program} {w : World} {ops : Array Oper} {rest : List Oper} {o : Oper} {a : Act} {Q : Exit → Act → World → Prop} (hgd : o.guard = none) (s x : Operand) (t : TypeId)
    (ho : o.op = .call { callee := .builtin .append, args := #[s, x], argTypes := #[t, t] }) (i : TypeInfo) (ht : P.underlying t = some (.slice 2)) (hi : P.info? 2 = some i) (hz : i.zero = some (.int .i64 0))
    (hsize : i.size = 1) (hby : i.bytes = 8) {n m d g : Nat} {B : Option Addr} {xs ys : List Int} (hs : a.eval s = .slice (some ⟨g, 0, none⟩) n n) (ha : RI w (some ⟨g, 0, none⟩) n xs) (hx : a.eval x = .slice B m d) (hb : RI w B m ys) (hm : 0 < m) (hnm : n + m ≤ 4194304)
    (hK : ∀ A' c' w', OwI w' w.heap.size A' (n + m) c' (xs ++ ys) → Ext w w' → wpList P ops Q rest (a.put o.dst (.slice A' (n + m) c')) w') : wpList P ops Q (o :: rest) a w :=
  wpList_plain hgd fun _ hk => wp_append_full s x t ho i ht hi hz hsize hby hs ha hx hb hm hnm fun A' c' w' h1 h2 => hk _ _ (hK A' c' w' h1 h2)

/-- What is there when the dice have been thrown. -/
structure There (w : World) (s u r : Nat) (AS AP TA TB UA UB : Option Addr) (cS na nb ma da mb db : Nat) (ps : List Pl) (a b u0 u1 : Tm) : Prop where
  s0 : w.cell? ⟨s, 0, none⟩ = some (.slice AS 3 cS)
  q0 : w.cell? ⟨u, 0, none⟩ = some (.slice (some ⟨r, 0, none⟩) 2 2)
  r0 : w.cell? ⟨r, 0, none⟩ = some (.slice UA ma da)
  r1 : w.cell? ⟨r, 1, none⟩ = some (.slice UB mb db)
  sg : RI w AS 3 arD
  pl : RP w AP 3 ps
  ta : RI w TA na a.flat
  tb : RI w TB nb b.flat
  ua : RI w UA ma u0.flat
  ub : RI w UB mb u1.flat
theorem There.ext {w w' : World} {s u r : Nat} {AS AP TA TB UA UB : Option Addr} {cS na nb ma da mb db : Nat} {ps : List Pl} {a b u0 u1 : Tm} (h : There w s u r AS AP TA TB UA UB cS na nb ma da mb db ps a b u0 u1) (k : Ext w w') : There w' s u r AS AP TA TB UA UB cS na nb ma da mb db ps a b u0 u1 :=
  ⟨Ext.keep k h.s0, Ext.keep k h.q0, Ext.keep k h.r0, Ext.keep k h.r1, h.sg.ext k, h.pl.ext k, h.ta.ext k, h.tb.ext k, h.ua.ext k, h.ub.ext k⟩
theorem There.sub {w : World} {s u r : Nat} {AS AP TA TB UA UB : Option Addr} {cS na nb ma da mb db : Nat} {ps : List Pl} {a b u0 u1 : Tm} (h : There w s u r AS AP TA TB UA UB cS na nb ma da mb db ps a b u0 u1) : RSg w (some ⟨r, 0, none⟩) 2 [u0.flat, u1.flat] :=
  ⟨⟨rfl, by omega⟩, fun j xs hx => by
    match j with
    | 0 => cases hx; exact ⟨r, 0, UA, ma, da, rfl, h.r0, h.ua⟩
    | 1 => cases hx; exact ⟨r, 0, UB, mb, db, rfl, h.r1, h.ub⟩
    | j + 2 => simp at hx⟩

set_option maxRecDepth 100000 in
set_option maxHeartbeats 16000000 in
theorem walk {v0 : Value} {x0 : Nat} {w : World} (h0 : RawBy w v0 x0) :
    Calls Try.prog 3 #[v0] w fun e w' => e = .returned (.bool true) ∧ Ext w w' := by
  have H0 := Lib.hid h0
  obtain ⟨bb, hbb⟩ : ∃ bb, decide (4096 < x0) = bb := ⟨_, rfl⟩
  have HBB := Lib.hid hbb
  obtain ⟨i0, hii, hiz, his, hib⟩ := info_parts int64_info
  clear h0 hbb
  go_enter Try.func3, Try.ntmps3
  go_wp2_with fail
  (with_reducible refine (c_big HBB.out H0.out).mono ?_)
  rintro e w1 ⟨rfl, hE1⟩
  cases bb with
  | true =>
    go_wp2
    go_ret
    exact ⟨rfl, hE1⟩
  | false =>
    have hx : x0 ≤ 4096 := by have := HBB.out; simpa using this
    have H1 := Lib.hid (show RawBy w1 v0 x0 from by
      obtain ⟨A, c, e, h1, h2⟩ := H0.out
      refine ⟨A, c, e, h1, fun h => ?_⟩
      obtain ⟨b, o, e2, h3⟩ := h2 h
      exact ⟨b, o, e2, fun j hj => by obtain ⟨y, h4, h5⟩ := h3 j hj; exact ⟨y, Ext.keep hE1 h4, h5⟩⟩)
    go_wp2_with fail
    (with_reducible refine (c_roll H1.out hx).mono ?_)
    rintro e w2 ⟨g, rfl, hD2, hg2, hE2⟩
    have hE02 : Ext w w2 := Ext.trans hE1 hE2
    have hgw : w.heap.size ≤ g := by have := hE1.size; omega
    go_wp2_with fail
    (with_reducible refine (c_w9Sig).mono ?_)
    rintro e w3 ⟨AS, nS, cS, rfl, hO3, hE3⟩
    have hnS : nS = 3 := hO3.len.symm
    subst hnS
    have hg3 := hD2.lt
    have hs3 := hE3.size
    have HD3 := Lib.hid ((hD2.ext hE3).ext ((Ext.refl w3).alloc (.cells #[.slice AS 3 cS] 29)))
    have HS3 := Lib.hid (show RIg (w3.alloc (.cells #[.slice AS 3 cS] 29)) g AS 3 arD from RIg.ext (RIg.of hO3 hg3) ((Ext.refl w3).alloc _))
    have hb3 : (w3.alloc (.cells #[.slice AS 3 cS] 29)).cell? ⟨w3.heap.size, 0, none⟩ = some (.slice AS 3 cS) := by simp [go_sem]
    have hsg : w3.heap.size ≠ g := by omega
    have hE03 : Ext w (w3.alloc (.cells #[.slice AS 3 cS] 29)) := (Ext.trans hE02 hE3).alloc _
    clear hO3
    go_wp2_with fail
    (with_reducible refine (c_w9Polys HD3.out (by omega)).mono ?_)
    rintro e w4 ⟨AP, ps, rfl, hP4, hps, hD4, hO4, _⟩
    have hs4 := hO4.size
    simp only [World.size_alloc] at hs4
    have hE04 : Ext w w4 := hO4.ext hE03 hgw
    have HS4 := Lib.hid (HS3.out.only hO4)
    have hb4 := cell_only hO4 hsg hb3
    have HPS := Lib.hid hps
    have hg4 := hD4.lt
    clear hps
    go_wp2_with fail
    (with_reducible refine (c_w9Term (g := g) (vars := 2) (by omega) (by omega) 2 (by omega) 3 (by omega) hD4).mono ?_)
    rintro e w5 ⟨TA, na, ca, a, rfl, hOa, oka, ga, hna, hD5, hO5⟩
    have hs5 := hO5.size
    have hlenA := hOa.len
    have HTA := Lib.hid (RIg.of hOa hg4)
    have hE05 : Ext w w5 := hO5.ext hE04 hgw
    have hg5 := hD5.lt
    have hna7 : na ≤ 7 := hna
    have HLA := Lib.hid hlenA
    have HOA := Lib.hid oka
    have HGA := Lib.hid ga
    clear hOa oka ga hlenA hna
    go_wp2_with fail
    (with_reducible refine (c_w9Term (g := g) (vars := 2) (by omega) (by omega) 2 (by omega) 3 (by omega) hD5).mono ?_)
    rintro e w6 ⟨TB, nb, cb, b, rfl, hOb, okb, gb, hnb, hD6, hO6⟩
    have hs6 := hO6.size
    have hlenB := hOb.len
    have HTB := Lib.hid (RIg.of hOb hg5)
    have hE06 : Ext w w6 := hO6.ext hE05 hgw
    have hg6 := hD6.lt
    have hnb7 : nb ≤ 7 := hnb
    have HLB := Lib.hid hlenB
    have HOB := Lib.hid okb
    have HGB := Lib.hid gb
    clear hOb okb gb hlenB hnb
    go_wp2_with fail
    (with_reducible refine (c_w9Term (g := g) (vars := 0) (by omega) (by omega) 1 (by omega) 2 (by omega) hD6).mono ?_)
    rintro e w7 ⟨UA, ma, da, u0, rfl, hO0, ok0, g0, hn0, hD7, hO7⟩
    have hs7 := hO7.size
    have hlen0 := hO0.len
    have HUA := Lib.hid (RIg.of hO0 hg6)
    have hE07 : Ext w w7 := hO7.ext hE06 hgw
    have hg7 := hD7.lt
    have hn03 : ma ≤ 3 := hn0
    have HL0 := Lib.hid hlen0
    have HO0 := Lib.hid ok0
    have HG0 := Lib.hid g0
    clear hO0 ok0 g0 hlen0 hn0
    go_wp2_with fail
    (with_reducible refine (c_w9Term (g := g) (vars := 0) (by omega) (by omega) 1 (by omega) 2 (by omega) hD7).mono ?_)
    rintro e w8 ⟨UB, mb, db, u1, rfl, hO1, ok1, g1, hn1, hD8, hO8⟩
    have hs8 := hO8.size
    have hlen1 := hO1.len
    have HUB := Lib.hid (RIg.of hO1 hg7)
    have hE08 : Ext w w8 := hO8.ext hE07 hgw
    have hn13 : mb ≤ 3 := hn1
    have HTW := Lib.hid (show Two u0 u1 from ⟨HO0.out, ok1, by rw [HL0.out]; exact hn03, by rw [hlen1]; exact hn13, fun z hz => by have := HG0.out z hz; omega, fun z hz => by have := g1 z hz; omega⟩)
    clear hO1 ok1 g1 hlen1 hn1
    have hO48 : Only w4 w8 g := (hO5.trans hO6).trans (hO7.trans hO8)
    have hO58 : Only w5 w8 g := hO6.trans (hO7.trans hO8)
    have hO68 : Only w6 w8 g := hO7.trans hO8
    obtain ⟨w9, hw9⟩ : ∃ w9, w9 = (w8.alloc (.cells #[.slice UA ma da, .slice UB mb db] 27)).alloc (.cells #[.slice (some ⟨w8.heap.size, 0, none⟩) 2 2] 36) := ⟨_, rfl⟩
    have hE89 : Ext w8 w9 := by rw [hw9]; exact ((Ext.refl w8).alloc _).alloc _
    have hE09 : Ext w w9 := Ext.trans hE08 hE89
    have hz9 : w9.heap.size = w8.heap.size + 2 := by rw [hw9]; simp
    have HT := Lib.hid (show There w9 w3.heap.size (w8.heap.size + 1) w8.heap.size AS AP TA TB UA UB cS na nb ma da mb db ps a b u0 u1 from
      ⟨Ext.keep hE89 (cell_only hO48 hsg hb4), by rw [hw9]; simp [go_sem], by rw [hw9]; simp [go_sem], by rw [hw9]; simp [go_sem], ((HS4.out.only hO48).1).ext hE89, ((hP4.only hO48).rp).ext hE89, ((HTA.out.only hO58).1).ext hE89, ((HTB.out.only hO68).1).ext hE89, ((HUA.out.only hO8).1).ext hE89, (HUB.out.1).ext hE89⟩)
    obtain ⟨f, x, y, z, S, W, hlaw⟩ := law HPS.out HTW.out HOA.out HOB.out (by rw [HLA.out]; exact hna7) (by rw [HLB.out]; exact hnb7) (fun z hz => by have := HGA.out z hz; omega) (fun z hz => by have := HGB.out z hz; omega)
    have HL := Lib.hid hlaw
    have HPA := Lib.hid (show TermP arD a.flat from termD HOA.out (by rw [HLA.out]; omega) (fun z hz => by have := HGA.out z hz; omega))
    have HPB := Lib.hid (show TermP arD b.flat from termD HOB.out (by rw [HLB.out]; omega) (fun z hz => by have := HGB.out z hz; omega))
    have hz3 := hlaw.z3
    subst hz3
    have hc8 := cell_only hO48 hsg hb4
    have hl8 : w3.heap.size < w8.heap.size := World.block_lt_of_cell? w8 _ hc8
    clear hlaw hb3 hb4 HS3 HS4 HTA HTB HUA HUB HD3 hP4 hD4 hD5 hD6 hD7 hD8 hO4 hO5 hO6 hO7 hO8 hO48 hO58 hO68 hsg HG0 HO0 HL0
    go_wp2_with fail
    rw [← hw9]
    clear hw9 hc8 hl8
    obtain ⟨sp, hsp⟩ : ∃ sp, sp = w3.heap.size := ⟨_, rfl⟩
    obtain ⟨rp, hrp⟩ : ∃ rp, rp = w8.heap.size := ⟨_, rfl⟩
    rw [← hsp, ← hrp] at HT ⊢
    clear hsp hrp hz9
    have HE9 := Lib.hid hE09
    have t9 := HT.out.s0
    have t9b := HT.out.q0
    (with_reducible refine (c_formB HL.out.f1 (RdSig.mk HT.out.sg) (RdPs.mk HT.out.pl) (RdI.mk HT.out.tb)).mono ?_)
    rintro e w10 ⟨FA, fn, fc, rfl, hFA, hE10⟩
    have hfl := hFA.len
    obtain ⟨w11, hw11⟩ : ∃ w11, w11 = w10.alloc (.cells #[.int .i64 f.c, .slice FA fn fc] 38) := ⟨_, rfl⟩
    have hE101 : Ext w10 w11 := by rw [hw11]; exact extX
    have hE911 : Ext w9 w11 := Ext.trans hE10 hE101
    have HFA := Lib.hid (RI.ext hFA hE101)
    have HF0 := Lib.hid (show w11.cell? ⟨w10.heap.size, 0, none⟩ = some (.int .i64 f.c) by rw [hw11]; simp [go_sem])
    have HF1 := Lib.hid (show w11.cell? ⟨w10.heap.size, 1, none⟩ = some (.slice FA fn fc) by rw [hw11]; simp [go_sem])
    have HT11 := Lib.hid (HT.out.ext hE911)
    have hfn2 : fn ≤ 2 := by have := HL.out.f2; omega
    clear t9 t9b hFA HT
    go_wp2_with fail
    rw [← hw11]
    clear hw11
    obtain ⟨fp, hfp⟩ : ∃ fp, fp = w10.heap.size := ⟨_, rfl⟩
    rw [← hfp] at HF0 HF1 ⊢
    clear hfp
    refine wp_only (R := fun (a0 : Act) (a8 : Act) (w9 : World) => ∃ (q : Nat), a8 = (((((((((((((a0.put (some 48) (.agg #[.slice AS 3 cS])).put (some 49) (.slice AP 3 3)).put (some 50) (.pointer (some ⟨rp + 1, 0, none⟩))).put (some 51) (.slice (some ⟨rp, 0, none⟩) 2 2)).put (some 52) (.pointer (some ⟨rp, 0, none⟩))).put (some 53) (.slice UA ma da)).put (some 54) (.slice (some ⟨q, 0, none⟩) 0 0)).put (some 55) (.tuple #[.int .i64 x, .bool true])).put (some 47) (.tuple #[.int .i64 x, .bool true])).put (some 56) (.int .i64 x)).put (some 57) (.bool true)).put (some 11) (.int .i64 x)).put (some 12) (.bool true)) ∧ Ext w11 w9) ?_ (fun a8 w12 hR => ?_)
    · refine wp_region_held_drew (S := (fun w' => Ext w11 w')) (by kernel_rfl) ((Ext.refl w11).drew) (fun hH => ?_)
      refine wpAnyH_take_dst (i := 0) (v := .agg #[.slice AS 3 cS]) (d := some 48) rfl rfl (by kernel_rfl) (by kernel_rfl) (by kernel_rfl) (fun _ _ _ h => h) (Or.inl ⟨by rfl, ?_⟩) hH ?_
      · (intro w' hE'; (try dsimp only at hE'); have y0 := Ext.keep hE' HT11.out.s0; have y1 := Ext.keep hE' HT11.out.q0; have y2 := Ext.keep hE' HT11.out.r0; go_simp; try with_reducible rfl)
      try simp only [Act.put, List.setIfInBounds_toArray, List.set_cons_zero, List.set_cons_succ]
      refine wpAnyH_take_dst (i := 1) (v := .slice AP 3 3) (d := some 49) rfl rfl (by kernel_rfl) (by kernel_rfl) (by kernel_rfl) (fun _ _ _ h => h) (Or.inl ⟨by rfl, ?_⟩) hH ?_
      · (intro w' hE'; (try dsimp only at hE'); have y0 := Ext.keep hE' HT11.out.s0; have y1 := Ext.keep hE' HT11.out.q0; have y2 := Ext.keep hE' HT11.out.r0; go_simp; try with_reducible rfl)
      try simp only [Act.put, List.setIfInBounds_toArray, List.set_cons_zero, List.set_cons_succ]
      refine wpAnyH_take_dst (i := 2) (v := .pointer (some ⟨rp + 1, 0, none⟩)) (d := some 50) rfl rfl (by kernel_rfl) (by kernel_rfl) (by kernel_rfl) (fun _ _ _ h => h) (Or.inl ⟨by rfl, ?_⟩) hH ?_
      · (intro w' hE'; (try dsimp only at hE'); have y0 := Ext.keep hE' HT11.out.s0; have y1 := Ext.keep hE' HT11.out.q0; have y2 := Ext.keep hE' HT11.out.r0; go_simp; try with_reducible rfl)
      try simp only [Act.put, List.setIfInBounds_toArray, List.set_cons_zero, List.set_cons_succ]
      refine wpAnyH_take_dst (i := 3) (v := .slice (some ⟨rp, 0, none⟩) 2 2) (d := some 51) rfl rfl (by kernel_rfl) (by kernel_rfl) (by kernel_rfl) (fun _ _ _ h => h) (Or.inl ⟨by rfl, ?_⟩) hH ?_
      · (intro w' hE'; (try dsimp only at hE'); have y0 := Ext.keep hE' HT11.out.s0; have y1 := Ext.keep hE' HT11.out.q0; have y2 := Ext.keep hE' HT11.out.r0; go_simp; try with_reducible rfl)
      try simp only [Act.put, List.setIfInBounds_toArray, List.set_cons_zero, List.set_cons_succ]
      refine wpAnyH_take_dst (i := 4) (v := .pointer (some ⟨rp, 0, none⟩)) (d := some 52) rfl rfl (by kernel_rfl) (by kernel_rfl) (by kernel_rfl) (fun _ _ _ h => h) (Or.inl ⟨by rfl, ?_⟩) hH ?_
      · (intro w' hE'; (try dsimp only at hE'); have y0 := Ext.keep hE' HT11.out.s0; have y1 := Ext.keep hE' HT11.out.q0; have y2 := Ext.keep hE' HT11.out.r0; go_simp; try with_reducible rfl)
      try simp only [Act.put, List.setIfInBounds_toArray, List.set_cons_zero, List.set_cons_succ]
      refine wpAnyH_take_dst (i := 5) (v := .slice UA ma da) (d := some 53) rfl rfl (by kernel_rfl) (by kernel_rfl) (by kernel_rfl) (fun _ _ _ h => h) (Or.inl ⟨by rfl, ?_⟩) hH ?_
      · (intro w' hE'; (try dsimp only at hE'); have y0 := Ext.keep hE' HT11.out.s0; have y1 := Ext.keep hE' HT11.out.q0; have y2 := Ext.keep hE' HT11.out.r0; go_simp; try with_reducible rfl)
      try simp only [Act.put, List.setIfInBounds_toArray, List.set_cons_zero, List.set_cons_succ]
      refine wpAnyH_ready (rs := [6]) (by kernel_rfl) (by simp) ?_
      refine AllReadyH.cons rfl (fun K hK => ?_) AllReadyH.nil
      rw [if_pos (by rfl)]
      go_wp2_with fail
      refine hK.out _ _ (hH.alloc _) (fun hH9 => ?_)
      clear hK; have hH0 := hH; clear hH; have hH := hH9; clear hH9
      try simp only [Act.put, List.setIfInBounds_toArray, List.set_cons_zero, List.set_cons_succ]
      refine wpAnyH_ready (rs := [7]) (by kernel_rfl) (by simp) ?_
      refine AllReadyH.cons rfl (fun K hK => ?_) AllReadyH.nil
      rw [if_pos (by rfl)]
      go_wp2_with fail
      (with_reducible refine (c_valueB HL.out.x1 HL.out.x2 (RdSig.mk (HT11.out.ext hH).sg) (RdPs.mk (HT11.out.ext hH).pl) (RdI.mk (HT11.out.ext hH).ua) (RdI.mk (RI.nil _ _))).mono ?_)
      rintro e w9 ⟨rfl, hE9⟩
      refine hK.out _ _ (Ext.trans hH hE9) (fun hH9 => ?_)
      clear hK; have hH0 := hH; clear hH; have hH := hH9; clear hH9
      try simp only [Act.put, List.setIfInBounds_toArray, List.set_cons_zero, List.set_cons_succ]
      refine wpAnyH_take_dst (i := 8) (v := .tuple #[.int .i64 x, .bool true]) (d := some 47) rfl rfl (by kernel_rfl) (by kernel_rfl) (by kernel_rfl) (fun _ _ _ h => h) (Or.inl ⟨by rfl, ?_⟩) hH ?_
      · (intro w' hE'; (try dsimp only at hE'); have y0 := Ext.keep hE' HT11.out.s0; have y1 := Ext.keep hE' HT11.out.q0; have y2 := Ext.keep hE' HT11.out.r0; go_simp; try with_reducible rfl)
      try simp only [Act.put, List.setIfInBounds_toArray, List.set_cons_zero, List.set_cons_succ]
      refine wpAnyH_take_dst (i := 9) (v := .int .i64 x) (d := some 56) rfl rfl (by kernel_rfl) (by kernel_rfl) (by kernel_rfl) (fun _ _ _ h => h) (Or.inl ⟨by rfl, ?_⟩) hH ?_
      · (intro w' hE'; (try dsimp only at hE'); have y0 := Ext.keep hE' HT11.out.s0; have y1 := Ext.keep hE' HT11.out.q0; have y2 := Ext.keep hE' HT11.out.r0; go_simp; try with_reducible rfl)
      try simp only [Act.put, List.setIfInBounds_toArray, List.set_cons_zero, List.set_cons_succ]
      refine wpAnyH_take_dst (i := 11) (v := .int .i64 x) (d := some 11) rfl rfl (by kernel_rfl) (by kernel_rfl) (by kernel_rfl) (fun _ _ _ h => h) (Or.inl ⟨by rfl, ?_⟩) hH ?_
      · (intro w' hE'; (try dsimp only at hE'); have y0 := Ext.keep hE' HT11.out.s0; have y1 := Ext.keep hE' HT11.out.q0; have y2 := Ext.keep hE' HT11.out.r0; go_simp; try with_reducible rfl)
      try simp only [Act.put, List.setIfInBounds_toArray, List.set_cons_zero, List.set_cons_succ]
      refine wpAnyH_take_dst (i := 10) (v := .bool true) (d := some 57) rfl rfl (by kernel_rfl) (by kernel_rfl) (by kernel_rfl) (fun _ _ _ h => h) (Or.inl ⟨by rfl, ?_⟩) hH ?_
      · (intro w' hE'; (try dsimp only at hE'); have y0 := Ext.keep hE' HT11.out.s0; have y1 := Ext.keep hE' HT11.out.q0; have y2 := Ext.keep hE' HT11.out.r0; go_simp; try with_reducible rfl)
      try simp only [Act.put, List.setIfInBounds_toArray, List.set_cons_zero, List.set_cons_succ]
      refine wpAnyH_take_dst (i := 12) (v := .bool true) (d := some 12) rfl rfl (by kernel_rfl) (by kernel_rfl) (by kernel_rfl) (fun _ _ _ h => h) (Or.inl ⟨by rfl, ?_⟩) hH ?_
      · (intro w' hE'; (try dsimp only at hE'); have y0 := Ext.keep hE' HT11.out.s0; have y1 := Ext.keep hE' HT11.out.q0; have y2 := Ext.keep hE' HT11.out.r0; go_simp; try with_reducible rfl)
      try simp only [Act.put, List.setIfInBounds_toArray, List.set_cons_zero, List.set_cons_succ]
      refine wpAnyH_done (by kernel_rfl) ?_ _
      exact ⟨_, by rfl, hH⟩
    obtain ⟨q, ha, hE12⟩ := hR
    simp only [Act.put, List.setIfInBounds_toArray, List.set_cons_zero, List.set_cons_succ] at ha
    subst ha
    have HT12 := Lib.hid (HT11.out.ext hE12)
    clear HT11
    go_wp2_with fail
    refine wp_only (R := fun (a0 : Act) (a8 : Act) (w9 : World) => ∃ (q : Nat), a8 = (((((((((((((a0.put (some 59) (.agg #[.slice AS 3 cS])).put (some 60) (.slice AP 3 3)).put (some 61) (.pointer (some ⟨rp + 1, 0, none⟩))).put (some 62) (.slice (some ⟨rp, 0, none⟩) 2 2)).put (some 63) (.pointer (some ⟨rp, 1, none⟩))).put (some 64) (.slice UB mb db)).put (some 65) (.slice (some ⟨q, 0, none⟩) 0 0)).put (some 66) (.tuple #[.int .i64 y, .bool true])).put (some 58) (.tuple #[.int .i64 y, .bool true])).put (some 67) (.int .i64 y)).put (some 68) (.bool true)).put (some 13) (.int .i64 y)).put (some 14) (.bool true)) ∧ Ext w12 w9) ?_ (fun a8 w13 hR => ?_)
    · refine wp_region_held_drew (S := (fun w' => Ext w12 w')) (by kernel_rfl) ((Ext.refl w12).drew) (fun hH => ?_)
      refine wpAnyH_take_dst (i := 0) (v := .agg #[.slice AS 3 cS]) (d := some 59) rfl rfl (by kernel_rfl) (by kernel_rfl) (by kernel_rfl) (fun _ _ _ h => h) (Or.inl ⟨by rfl, ?_⟩) hH ?_
      · (intro w' hE'; (try dsimp only at hE'); have y0 := Ext.keep hE' HT12.out.s0; have y1 := Ext.keep hE' HT12.out.q0; have y2 := Ext.keep hE' HT12.out.r1; go_simp; try with_reducible rfl)
      try simp only [Act.put, List.setIfInBounds_toArray, List.set_cons_zero, List.set_cons_succ]
      refine wpAnyH_take_dst (i := 1) (v := .slice AP 3 3) (d := some 60) rfl rfl (by kernel_rfl) (by kernel_rfl) (by kernel_rfl) (fun _ _ _ h => h) (Or.inl ⟨by rfl, ?_⟩) hH ?_
      · (intro w' hE'; (try dsimp only at hE'); have y0 := Ext.keep hE' HT12.out.s0; have y1 := Ext.keep hE' HT12.out.q0; have y2 := Ext.keep hE' HT12.out.r1; go_simp; try with_reducible rfl)
      try simp only [Act.put, List.setIfInBounds_toArray, List.set_cons_zero, List.set_cons_succ]
      refine wpAnyH_take_dst (i := 2) (v := .pointer (some ⟨rp + 1, 0, none⟩)) (d := some 61) rfl rfl (by kernel_rfl) (by kernel_rfl) (by kernel_rfl) (fun _ _ _ h => h) (Or.inl ⟨by rfl, ?_⟩) hH ?_
      · (intro w' hE'; (try dsimp only at hE'); have y0 := Ext.keep hE' HT12.out.s0; have y1 := Ext.keep hE' HT12.out.q0; have y2 := Ext.keep hE' HT12.out.r1; go_simp; try with_reducible rfl)
      try simp only [Act.put, List.setIfInBounds_toArray, List.set_cons_zero, List.set_cons_succ]
      refine wpAnyH_take_dst (i := 3) (v := .slice (some ⟨rp, 0, none⟩) 2 2) (d := some 62) rfl rfl (by kernel_rfl) (by kernel_rfl) (by kernel_rfl) (fun _ _ _ h => h) (Or.inl ⟨by rfl, ?_⟩) hH ?_
      · (intro w' hE'; (try dsimp only at hE'); have y0 := Ext.keep hE' HT12.out.s0; have y1 := Ext.keep hE' HT12.out.q0; have y2 := Ext.keep hE' HT12.out.r1; go_simp; try with_reducible rfl)
      try simp only [Act.put, List.setIfInBounds_toArray, List.set_cons_zero, List.set_cons_succ]
      refine wpAnyH_take_dst (i := 4) (v := .pointer (some ⟨rp, 1, none⟩)) (d := some 63) rfl rfl (by kernel_rfl) (by kernel_rfl) (by kernel_rfl) (fun _ _ _ h => h) (Or.inl ⟨by rfl, ?_⟩) hH ?_
      · (intro w' hE'; (try dsimp only at hE'); have y0 := Ext.keep hE' HT12.out.s0; have y1 := Ext.keep hE' HT12.out.q0; have y2 := Ext.keep hE' HT12.out.r1; go_simp; try with_reducible rfl)
      try simp only [Act.put, List.setIfInBounds_toArray, List.set_cons_zero, List.set_cons_succ]
      refine wpAnyH_take_dst (i := 5) (v := .slice UB mb db) (d := some 64) rfl rfl (by kernel_rfl) (by kernel_rfl) (by kernel_rfl) (fun _ _ _ h => h) (Or.inl ⟨by rfl, ?_⟩) hH ?_
      · (intro w' hE'; (try dsimp only at hE'); have y0 := Ext.keep hE' HT12.out.s0; have y1 := Ext.keep hE' HT12.out.q0; have y2 := Ext.keep hE' HT12.out.r1; go_simp; try with_reducible rfl)
      try simp only [Act.put, List.setIfInBounds_toArray, List.set_cons_zero, List.set_cons_succ]
      refine wpAnyH_ready (rs := [6]) (by kernel_rfl) (by simp) ?_
      refine AllReadyH.cons rfl (fun K hK => ?_) AllReadyH.nil
      rw [if_pos (by rfl)]
      go_wp2_with fail
      refine hK.out _ _ (hH.alloc _) (fun hH9 => ?_)
      clear hK; have hH0 := hH; clear hH; have hH := hH9; clear hH9
      try simp only [Act.put, List.setIfInBounds_toArray, List.set_cons_zero, List.set_cons_succ]
      refine wpAnyH_ready (rs := [7]) (by kernel_rfl) (by simp) ?_
      refine AllReadyH.cons rfl (fun K hK => ?_) AllReadyH.nil
      rw [if_pos (by rfl)]
      go_wp2_with fail
      (with_reducible refine (c_valueB HL.out.y1 HL.out.y2 (RdSig.mk (HT12.out.ext hH).sg) (RdPs.mk (HT12.out.ext hH).pl) (RdI.mk (HT12.out.ext hH).ub) (RdI.mk (RI.nil _ _))).mono ?_)
      rintro e w9 ⟨rfl, hE9⟩
      refine hK.out _ _ (Ext.trans hH hE9) (fun hH9 => ?_)
      clear hK; have hH0 := hH; clear hH; have hH := hH9; clear hH9
      try simp only [Act.put, List.setIfInBounds_toArray, List.set_cons_zero, List.set_cons_succ]
      refine wpAnyH_take_dst (i := 8) (v := .tuple #[.int .i64 y, .bool true]) (d := some 58) rfl rfl (by kernel_rfl) (by kernel_rfl) (by kernel_rfl) (fun _ _ _ h => h) (Or.inl ⟨by rfl, ?_⟩) hH ?_
      · (intro w' hE'; (try dsimp only at hE'); have y0 := Ext.keep hE' HT12.out.s0; have y1 := Ext.keep hE' HT12.out.q0; have y2 := Ext.keep hE' HT12.out.r1; go_simp; try with_reducible rfl)
      try simp only [Act.put, List.setIfInBounds_toArray, List.set_cons_zero, List.set_cons_succ]
      refine wpAnyH_take_dst (i := 9) (v := .int .i64 y) (d := some 67) rfl rfl (by kernel_rfl) (by kernel_rfl) (by kernel_rfl) (fun _ _ _ h => h) (Or.inl ⟨by rfl, ?_⟩) hH ?_
      · (intro w' hE'; (try dsimp only at hE'); have y0 := Ext.keep hE' HT12.out.s0; have y1 := Ext.keep hE' HT12.out.q0; have y2 := Ext.keep hE' HT12.out.r1; go_simp; try with_reducible rfl)
      try simp only [Act.put, List.setIfInBounds_toArray, List.set_cons_zero, List.set_cons_succ]
      refine wpAnyH_take_dst (i := 11) (v := .int .i64 y) (d := some 13) rfl rfl (by kernel_rfl) (by kernel_rfl) (by kernel_rfl) (fun _ _ _ h => h) (Or.inl ⟨by rfl, ?_⟩) hH ?_
      · (intro w' hE'; (try dsimp only at hE'); have y0 := Ext.keep hE' HT12.out.s0; have y1 := Ext.keep hE' HT12.out.q0; have y2 := Ext.keep hE' HT12.out.r1; go_simp; try with_reducible rfl)
      try simp only [Act.put, List.setIfInBounds_toArray, List.set_cons_zero, List.set_cons_succ]
      refine wpAnyH_take_dst (i := 10) (v := .bool true) (d := some 68) rfl rfl (by kernel_rfl) (by kernel_rfl) (by kernel_rfl) (fun _ _ _ h => h) (Or.inl ⟨by rfl, ?_⟩) hH ?_
      · (intro w' hE'; (try dsimp only at hE'); have y0 := Ext.keep hE' HT12.out.s0; have y1 := Ext.keep hE' HT12.out.q0; have y2 := Ext.keep hE' HT12.out.r1; go_simp; try with_reducible rfl)
      try simp only [Act.put, List.setIfInBounds_toArray, List.set_cons_zero, List.set_cons_succ]
      refine wpAnyH_take_dst (i := 12) (v := .bool true) (d := some 14) rfl rfl (by kernel_rfl) (by kernel_rfl) (by kernel_rfl) (fun _ _ _ h => h) (Or.inl ⟨by rfl, ?_⟩) hH ?_
      · (intro w' hE'; (try dsimp only at hE'); have y0 := Ext.keep hE' HT12.out.s0; have y1 := Ext.keep hE' HT12.out.q0; have y2 := Ext.keep hE' HT12.out.r1; go_simp; try with_reducible rfl)
      try simp only [Act.put, List.setIfInBounds_toArray, List.set_cons_zero, List.set_cons_succ]
      refine wpAnyH_done (by kernel_rfl) ?_ _
      exact ⟨_, by rfl, hH⟩
    obtain ⟨q, ha, hE13⟩ := hR
    simp only [Act.put, List.setIfInBounds_toArray, List.set_cons_zero, List.set_cons_succ] at ha
    subst ha
    have HT13 := Lib.hid (HT12.out.ext hE13)
    have t13 := HT13.out.s0
    have t13b := HT13.out.q0
    clear HT12
    go_wp2_with fail
    (with_reducible refine (c_filledB HL.out.w1 HTW.out.sub HPB.out (RdSig.mk HT13.out.sg) (RdSub.mk HT13.out.sub) HT13.out.tb).mono ?_)
    rintro e w14 ⟨WA, wn, wc, rfl, hWA, hE14⟩
    have hE1114 : Ext w11 w14 := Ext.trans hE12 (Ext.trans hE13 hE14)
    have HT14 := Lib.hid (HT13.out.ext hE14)
    have HWA := Lib.hid hWA
    have HFA14 := Lib.hid (RI.ext HFA.out hE1114)
    have hf0 := Ext.keep hE1114 HF0.out
    have hf1 := Ext.keep hE1114 HF1.out
    have HE14 := Lib.hid (Ext.trans HE9.out (Ext.trans hE911 hE1114))
    clear t13 t13b HT13 hWA HFA HF0 HF1
    go_wp2_with fail
    clear hf0
    go_loopw [17, 18] (fun nv iv wr => ∃ k : Nat, iv = .int .i64 k ∧ nv = .int .i64 (vsum f [x, y] k) ∧ k ≤ fn ∧ Hid (Ext w14 wr)) (fun _ iv _ => fn - (intOf iv).toNat)
    case atStart => exact ⟨0, rfl, rfl, by omega, Lib.hid (Ext.refl _)⟩
    case round =>
      obtain ⟨k, rfl, rfl, hk, HER⟩ := hrel
      have hf1r := Ext.keep HER.out hf1
      have hVX : ValsOk [x, y] := ⟨by simp, fun z hz => by
        have h1 := HL.out.xb
        have h2 := HL.out.yb
        simp only [List.mem_cons, List.not_mem_nil, or_false] at hz
        rcases hz with rfl | rfl <;> omega⟩
      have hvb := vsum_bd HL.out.f3 hVX k
      have hmb := vmul_bd HL.out.f3 hVX k
      obtain ⟨V, hV⟩ : ∃ V, vsum f [x, y] k = V := ⟨_, rfl⟩
      by_cases hlt : k < fn
      · obtain ⟨qb, qo, zk, rfl, hzk, hqk⟩ := RI.at_ (RI.ext HFA14.out HER.out) hlt
        have hnz : nth f.cf k = zk := by unfold nth; rw [List.getD_eq_getElem?_getD, hzk]; rfl
        have hk2 : k ≤ 1 := by omega
        rw [hnz] at hmb
        have hnext : vsum f [x, y] (k + 1) = V + zk * nth [x, y] k := by
          show vsum f [x, y] k + nth f.cf k * nth [x, y] k = _
          rw [hV, hnz]
        rw [hV] at hvb ⊢
        clear hVX hnz hzk
        rcases (show k = 0 ∨ k = 1 by omega) with rfl | rfl
        · have hm1 : IntKind.i64.wrap (zk * x) = zk * x := IntWalk.i64_in _ (by have h1 := hmb; simp only [nth, List.getD_cons_zero, List.getD_cons_succ] at h1; omega)
          have hm2 : IntKind.i64.wrap (V + zk * x) = V + zk * x := IntWalk.i64_in _ (by have h1 := hmb; simp only [nth, List.getD_cons_zero, List.getD_cons_succ] at h1; omega)
          have hnx : vsum f [x, y] (0 + 1) = V + zk * x := hnext
          have hki : (0 : Int) < (fn : Int) := by omega
          rw [Nat.add_zero] at hqk
          rw [show ((0 : Nat) : Int) = 0 from rfl]
          clear hmb hnext
          go_wp2_with fail
          refine wp_only (R := fun (a0 : Act) (a8 : Act) (w9 : World) => a8 = ((((((((((((((((a0.put (some 99) (.int .i64 V)).put (some 100) (.pointer (some ⟨fp, 1, none⟩))).put (some 101) (.slice (some ⟨qb, qo, none⟩) fn fc)).put (some 102) (.int .i64 0)).put (some 103) (.pointer (some ⟨qb, qo, none⟩))).put (some 104) (.int .i64 zk)).put (some 105) (.int .i64 x)).put (some 106) (.int .i64 y)).put (some 107) (.slice (some ⟨wr.heap.size, 0, none⟩) 2 2)).put (some 108) (.int .i64 0)).put (some 109) (.int .i64 0)).put (some 110) (.pointer (some ⟨wr.heap.size, 0, none⟩))).put (some 111) (.int .i64 x)).put (some 112) (.int .i64 (zk * x))).put (some 113) (.int .i64 (V + zk * x))).put (some 17) (.int .i64 (V + zk * x))) ∧ Ext wr w9) ?_ (fun a8 w16 hR => ?_)
          · refine wp_region_held_drew (S := (fun w' => Ext wr w')) (by kernel_rfl) ((Ext.refl wr).drew) (fun hH => ?_)
            refine wpAnyH_take_dst (i := 0) (v := .int .i64 V) (d := some 99) rfl rfl (by kernel_rfl) (by kernel_rfl) (by kernel_rfl) (fun _ _ _ h => h) (Or.inl ⟨by rfl, ?_⟩) hH ?_
            · (intro w' hE'; (try dsimp only at hE'); have y0 := Ext.keep hE' hf1r; have y1 := Ext.keep hE' hqk; go_simp; try with_reducible rfl)
            try simp only [Act.put, List.setIfInBounds_toArray, List.set_cons_zero, List.set_cons_succ]
            refine wpAnyH_take_dst (i := 1) (v := .pointer (some ⟨fp, 1, none⟩)) (d := some 100) rfl rfl (by kernel_rfl) (by kernel_rfl) (by kernel_rfl) (fun _ _ _ h => h) (Or.inl ⟨by rfl, ?_⟩) hH ?_
            · (intro w' hE'; (try dsimp only at hE'); have y0 := Ext.keep hE' hf1r; have y1 := Ext.keep hE' hqk; go_simp; try with_reducible rfl)
            try simp only [Act.put, List.setIfInBounds_toArray, List.set_cons_zero, List.set_cons_succ]
            refine wpAnyH_take_dst (i := 2) (v := .slice (some ⟨qb, qo, none⟩) fn fc) (d := some 101) rfl rfl (by kernel_rfl) (by kernel_rfl) (by kernel_rfl) (fun _ _ _ h => h) (Or.inl ⟨by rfl, ?_⟩) hH ?_
            · (intro w' hE'; (try dsimp only at hE'); have y0 := Ext.keep hE' hf1r; have y1 := Ext.keep hE' hqk; go_simp; try with_reducible rfl)
            try simp only [Act.put, List.setIfInBounds_toArray, List.set_cons_zero, List.set_cons_succ]
            refine wpAnyH_take_dst (i := 3) (v := .int .i64 0) (d := some 102) rfl rfl (by kernel_rfl) (by kernel_rfl) (by kernel_rfl) (fun _ _ _ h => h) (Or.inl ⟨by rfl, ?_⟩) hH ?_
            · (intro w' hE'; (try dsimp only at hE'); have y0 := Ext.keep hE' hf1r; have y1 := Ext.keep hE' hqk; go_simp; try with_reducible rfl)
            try simp only [Act.put, List.setIfInBounds_toArray, List.set_cons_zero, List.set_cons_succ]
            refine wpAnyH_take_dst (i := 4) (v := .pointer (some ⟨qb, qo, none⟩)) (d := some 103) rfl rfl (by kernel_rfl) (by kernel_rfl) (by kernel_rfl) (fun _ _ _ h => h) (Or.inl ⟨by rfl, ?_⟩) hH ?_
            · (intro w' hE'; (try dsimp only at hE'); have y0 := Ext.keep hE' hf1r; have y1 := Ext.keep hE' hqk; go_simp; try with_reducible rfl)
            try simp only [Act.put, List.setIfInBounds_toArray, List.set_cons_zero, List.set_cons_succ]
            refine wpAnyH_take_dst (i := 5) (v := .int .i64 zk) (d := some 104) rfl rfl (by kernel_rfl) (by kernel_rfl) (by kernel_rfl) (fun _ _ _ h => h) (Or.inl ⟨by rfl, ?_⟩) hH ?_
            · (intro w' hE'; (try dsimp only at hE'); have y0 := Ext.keep hE' hf1r; have y1 := Ext.keep hE' hqk; go_simp; try with_reducible rfl)
            try simp only [Act.put, List.setIfInBounds_toArray, List.set_cons_zero, List.set_cons_succ]
            refine wpAnyH_take_dst (i := 6) (v := .int .i64 x) (d := some 105) rfl rfl (by kernel_rfl) (by kernel_rfl) (by kernel_rfl) (fun _ _ _ h => h) (Or.inl ⟨by rfl, ?_⟩) hH ?_
            · (intro w' hE'; (try dsimp only at hE'); have y0 := Ext.keep hE' hf1r; have y1 := Ext.keep hE' hqk; go_simp; try with_reducible rfl)
            try simp only [Act.put, List.setIfInBounds_toArray, List.set_cons_zero, List.set_cons_succ]
            refine wpAnyH_take_dst (i := 7) (v := .int .i64 y) (d := some 106) rfl rfl (by kernel_rfl) (by kernel_rfl) (by kernel_rfl) (fun _ _ _ h => h) (Or.inl ⟨by rfl, ?_⟩) hH ?_
            · (intro w' hE'; (try dsimp only at hE'); have y0 := Ext.keep hE' hf1r; have y1 := Ext.keep hE' hqk; go_simp; try with_reducible rfl)
            try simp only [Act.put, List.setIfInBounds_toArray, List.set_cons_zero, List.set_cons_succ]
            refine wpAnyH_take_dst (i := 9) (v := .int .i64 0) (d := some 108) rfl rfl (by kernel_rfl) (by kernel_rfl) (by kernel_rfl) (fun _ _ _ h => h) (Or.inl ⟨by rfl, ?_⟩) hH ?_
            · (intro w' hE'; (try dsimp only at hE'); have y0 := Ext.keep hE' hf1r; have y1 := Ext.keep hE' hqk; go_simp; try with_reducible rfl)
            try simp only [Act.put, List.setIfInBounds_toArray, List.set_cons_zero, List.set_cons_succ]
            refine wpAnyH_take_dst (i := 10) (v := .int .i64 0) (d := some 109) rfl rfl (by kernel_rfl) (by kernel_rfl) (by kernel_rfl) (fun _ _ _ h => h) (Or.inl ⟨by rfl, ?_⟩) hH ?_
            · (intro w' hE'; (try dsimp only at hE'); have y0 := Ext.keep hE' hf1r; have y1 := Ext.keep hE' hqk; go_simp; try with_reducible rfl)
            try simp only [Act.put, List.setIfInBounds_toArray, List.set_cons_zero, List.set_cons_succ]
            refine wpAnyH_ready (rs := [8]) (by kernel_rfl) (by simp) ?_
            refine AllReadyH.cons rfl (fun K hK => ?_) AllReadyH.nil
            rw [if_pos (by rfl)]
            go_wp2_with fail
            refine hK.out _ _ (hH.alloc _) (fun hH9 => ?_)
            clear hK; have hH0 := hH; clear hH; have hH := hH9; clear hH9
            try simp only [Act.put, List.setIfInBounds_toArray, List.set_cons_zero, List.set_cons_succ]
            refine wpAnyH_take_dst (i := 11) (v := .pointer (some ⟨wr.heap.size, 0, none⟩)) (d := some 110) rfl rfl (by kernel_rfl) (by kernel_rfl) (by kernel_rfl) (fun _ _ _ h => h) (Or.inl ⟨by rfl, ?_⟩) hH ?_
            · (intro w' hE'; (try dsimp only at hE'); have y0 := Ext.keep hE' hf1r; have y1 := Ext.keep hE' hqk; go_simp; try with_reducible rfl)
            try simp only [Act.put, List.setIfInBounds_toArray, List.set_cons_zero, List.set_cons_succ]
            refine wpAnyH_ready (rs := [12]) (by kernel_rfl) (by simp) ?_
            refine AllReadyH.cons rfl (fun K hK => ?_) AllReadyH.nil
            rw [if_pos (by rfl)]
            go_wp2_with fail
            refine hK.out _ _ (hH) (fun hH9 => ?_)
            clear hK; have hH0 := hH; clear hH; have hH := hH9; clear hH9
            try simp only [Act.put, List.setIfInBounds_toArray, List.set_cons_zero, List.set_cons_succ]
            refine wpAnyH_take_dst (i := 13) (v := .int .i64 (zk * x)) (d := some 112) rfl rfl (by kernel_rfl) (by kernel_rfl) (by kernel_rfl) (fun _ _ _ h => h) (Or.inl ⟨by rfl, ?_⟩) hH ?_
            · (intro w' hE'; (try dsimp only at hE'); have y0 := Ext.keep hE' hf1r; have y1 := Ext.keep hE' hqk; go_simp; try with_reducible rfl)
            try simp only [Act.put, List.setIfInBounds_toArray, List.set_cons_zero, List.set_cons_succ]
            refine wpAnyH_take_dst (i := 14) (v := .int .i64 (V + zk * x)) (d := some 113) rfl rfl (by kernel_rfl) (by kernel_rfl) (by kernel_rfl) (fun _ _ _ h => h) (Or.inl ⟨by rfl, ?_⟩) hH ?_
            · (intro w' hE'; (try dsimp only at hE'); have y0 := Ext.keep hE' hf1r; have y1 := Ext.keep hE' hqk; go_simp; try with_reducible rfl)
            try simp only [Act.put, List.setIfInBounds_toArray, List.set_cons_zero, List.set_cons_succ]
            refine wpAnyH_take_dst (i := 15) (v := .int .i64 (V + zk * x)) (d := some 17) rfl rfl (by kernel_rfl) (by kernel_rfl) (by kernel_rfl) (fun _ _ _ h => h) (Or.inl ⟨by rfl, ?_⟩) hH ?_
            · (intro w' hE'; (try dsimp only at hE'); have y0 := Ext.keep hE' hf1r; have y1 := Ext.keep hE' hqk; go_simp; try with_reducible rfl)
            try simp only [Act.put, List.setIfInBounds_toArray, List.set_cons_zero, List.set_cons_succ]
            refine wpAnyH_done (by kernel_rfl) ?_ _
            exact ⟨by rfl, hH⟩
          obtain ⟨ha, hE16⟩ := hR
          simp only [Act.put, List.setIfInBounds_toArray, List.set_cons_zero, List.set_cons_succ] at ha
          subst ha
          go_wp2_with fail
          go_roundw
          case rel => exact ⟨0 + 1, by go_num, by rw [hnx], by omega, Lib.hid (Ext.trans HER.out hE16)⟩
          case measure => simp only [intOf]; omega
        · have hm1 : IntKind.i64.wrap (zk * y) = zk * y := IntWalk.i64_in _ (by have h1 := hmb; simp only [nth, List.getD_cons_zero, List.getD_cons_succ] at h1; omega)
          have hm2 : IntKind.i64.wrap (V + zk * y) = V + zk * y := IntWalk.i64_in _ (by have h1 := hmb; simp only [nth, List.getD_cons_zero, List.getD_cons_succ] at h1; omega)
          have hnx : vsum f [x, y] (1 + 1) = V + zk * y := hnext
          have hki : (1 : Int) < (fn : Int) := by omega
          rw [show ((1 : Nat) : Int) = 1 from rfl]
          clear hmb hnext
          go_wp2_with fail
          refine wp_only (R := fun (a0 : Act) (a8 : Act) (w9 : World) => a8 = ((((((((((((((((a0.put (some 99) (.int .i64 V)).put (some 100) (.pointer (some ⟨fp, 1, none⟩))).put (some 101) (.slice (some ⟨qb, qo, none⟩) fn fc)).put (some 102) (.int .i64 1)).put (some 103) (.pointer (some ⟨qb, qo + 1, none⟩))).put (some 104) (.int .i64 zk)).put (some 105) (.int .i64 x)).put (some 106) (.int .i64 y)).put (some 107) (.slice (some ⟨wr.heap.size, 0, none⟩) 2 2)).put (some 108) (.int .i64 1)).put (some 109) (.int .i64 1)).put (some 110) (.pointer (some ⟨wr.heap.size, 1, none⟩))).put (some 111) (.int .i64 y)).put (some 112) (.int .i64 (zk * y))).put (some 113) (.int .i64 (V + zk * y))).put (some 17) (.int .i64 (V + zk * y))) ∧ Ext wr w9) ?_ (fun a8 w16 hR => ?_)
          · refine wp_region_held_drew (S := (fun w' => Ext wr w')) (by kernel_rfl) ((Ext.refl wr).drew) (fun hH => ?_)
            refine wpAnyH_take_dst (i := 0) (v := .int .i64 V) (d := some 99) rfl rfl (by kernel_rfl) (by kernel_rfl) (by kernel_rfl) (fun _ _ _ h => h) (Or.inl ⟨by rfl, ?_⟩) hH ?_
            · (intro w' hE'; (try dsimp only at hE'); have y0 := Ext.keep hE' hf1r; have y1 := Ext.keep hE' hqk; go_simp; try with_reducible rfl)
            try simp only [Act.put, List.setIfInBounds_toArray, List.set_cons_zero, List.set_cons_succ]
            refine wpAnyH_take_dst (i := 1) (v := .pointer (some ⟨fp, 1, none⟩)) (d := some 100) rfl rfl (by kernel_rfl) (by kernel_rfl) (by kernel_rfl) (fun _ _ _ h => h) (Or.inl ⟨by rfl, ?_⟩) hH ?_
            · (intro w' hE'; (try dsimp only at hE'); have y0 := Ext.keep hE' hf1r; have y1 := Ext.keep hE' hqk; go_simp; try with_reducible rfl)
            try simp only [Act.put, List.setIfInBounds_toArray, List.set_cons_zero, List.set_cons_succ]
            refine wpAnyH_take_dst (i := 2) (v := .slice (some ⟨qb, qo, none⟩) fn fc) (d := some 101) rfl rfl (by kernel_rfl) (by kernel_rfl) (by kernel_rfl) (fun _ _ _ h => h) (Or.inl ⟨by rfl, ?_⟩) hH ?_
            · (intro w' hE'; (try dsimp only at hE'); have y0 := Ext.keep hE' hf1r; have y1 := Ext.keep hE' hqk; go_simp; try with_reducible rfl)
            try simp only [Act.put, List.setIfInBounds_toArray, List.set_cons_zero, List.set_cons_succ]
            refine wpAnyH_take_dst (i := 3) (v := .int .i64 1) (d := some 102) rfl rfl (by kernel_rfl) (by kernel_rfl) (by kernel_rfl) (fun _ _ _ h => h) (Or.inl ⟨by rfl, ?_⟩) hH ?_
            · (intro w' hE'; (try dsimp only at hE'); have y0 := Ext.keep hE' hf1r; have y1 := Ext.keep hE' hqk; go_simp; try with_reducible rfl)
            try simp only [Act.put, List.setIfInBounds_toArray, List.set_cons_zero, List.set_cons_succ]
            refine wpAnyH_take_dst (i := 4) (v := .pointer (some ⟨qb, qo + 1, none⟩)) (d := some 103) rfl rfl (by kernel_rfl) (by kernel_rfl) (by kernel_rfl) (fun _ _ _ h => h) (Or.inl ⟨by rfl, ?_⟩) hH ?_
            · (intro w' hE'; (try dsimp only at hE'); have y0 := Ext.keep hE' hf1r; have y1 := Ext.keep hE' hqk; go_simp; try with_reducible rfl)
            try simp only [Act.put, List.setIfInBounds_toArray, List.set_cons_zero, List.set_cons_succ]
            refine wpAnyH_take_dst (i := 5) (v := .int .i64 zk) (d := some 104) rfl rfl (by kernel_rfl) (by kernel_rfl) (by kernel_rfl) (fun _ _ _ h => h) (Or.inl ⟨by rfl, ?_⟩) hH ?_
            · (intro w' hE'; (try dsimp only at hE'); have y0 := Ext.keep hE' hf1r; have y1 := Ext.keep hE' hqk; go_simp; try with_reducible rfl)
            try simp only [Act.put, List.setIfInBounds_toArray, List.set_cons_zero, List.set_cons_succ]
            refine wpAnyH_take_dst (i := 6) (v := .int .i64 x) (d := some 105) rfl rfl (by kernel_rfl) (by kernel_rfl) (by kernel_rfl) (fun _ _ _ h => h) (Or.inl ⟨by rfl, ?_⟩) hH ?_
            · (intro w' hE'; (try dsimp only at hE'); have y0 := Ext.keep hE' hf1r; have y1 := Ext.keep hE' hqk; go_simp; try with_reducible rfl)
            try simp only [Act.put, List.setIfInBounds_toArray, List.set_cons_zero, List.set_cons_succ]
            refine wpAnyH_take_dst (i := 7) (v := .int .i64 y) (d := some 106) rfl rfl (by kernel_rfl) (by kernel_rfl) (by kernel_rfl) (fun _ _ _ h => h) (Or.inl ⟨by rfl, ?_⟩) hH ?_
            · (intro w' hE'; (try dsimp only at hE'); have y0 := Ext.keep hE' hf1r; have y1 := Ext.keep hE' hqk; go_simp; try with_reducible rfl)
            try simp only [Act.put, List.setIfInBounds_toArray, List.set_cons_zero, List.set_cons_succ]
            refine wpAnyH_take_dst (i := 9) (v := .int .i64 1) (d := some 108) rfl rfl (by kernel_rfl) (by kernel_rfl) (by kernel_rfl) (fun _ _ _ h => h) (Or.inl ⟨by rfl, ?_⟩) hH ?_
            · (intro w' hE'; (try dsimp only at hE'); have y0 := Ext.keep hE' hf1r; have y1 := Ext.keep hE' hqk; go_simp; try with_reducible rfl)
            try simp only [Act.put, List.setIfInBounds_toArray, List.set_cons_zero, List.set_cons_succ]
            refine wpAnyH_take_dst (i := 10) (v := .int .i64 1) (d := some 109) rfl rfl (by kernel_rfl) (by kernel_rfl) (by kernel_rfl) (fun _ _ _ h => h) (Or.inl ⟨by rfl, ?_⟩) hH ?_
            · (intro w' hE'; (try dsimp only at hE'); have y0 := Ext.keep hE' hf1r; have y1 := Ext.keep hE' hqk; go_simp; try with_reducible rfl)
            try simp only [Act.put, List.setIfInBounds_toArray, List.set_cons_zero, List.set_cons_succ]
            refine wpAnyH_ready (rs := [8]) (by kernel_rfl) (by simp) ?_
            refine AllReadyH.cons rfl (fun K hK => ?_) AllReadyH.nil
            rw [if_pos (by rfl)]
            go_wp2_with fail
            refine hK.out _ _ (hH.alloc _) (fun hH9 => ?_)
            clear hK; have hH0 := hH; clear hH; have hH := hH9; clear hH9
            try simp only [Act.put, List.setIfInBounds_toArray, List.set_cons_zero, List.set_cons_succ]
            refine wpAnyH_take_dst (i := 11) (v := .pointer (some ⟨wr.heap.size, 1, none⟩)) (d := some 110) rfl rfl (by kernel_rfl) (by kernel_rfl) (by kernel_rfl) (fun _ _ _ h => h) (Or.inl ⟨by rfl, ?_⟩) hH ?_
            · (intro w' hE'; (try dsimp only at hE'); have y0 := Ext.keep hE' hf1r; have y1 := Ext.keep hE' hqk; go_simp; try with_reducible rfl)
            try simp only [Act.put, List.setIfInBounds_toArray, List.set_cons_zero, List.set_cons_succ]
            refine wpAnyH_ready (rs := [12]) (by kernel_rfl) (by simp) ?_
            refine AllReadyH.cons rfl (fun K hK => ?_) AllReadyH.nil
            rw [if_pos (by rfl)]
            go_wp2_with fail
            refine hK.out _ _ (hH) (fun hH9 => ?_)
            clear hK; have hH0 := hH; clear hH; have hH := hH9; clear hH9
            try simp only [Act.put, List.setIfInBounds_toArray, List.set_cons_zero, List.set_cons_succ]
            refine wpAnyH_take_dst (i := 13) (v := .int .i64 (zk * y)) (d := some 112) rfl rfl (by kernel_rfl) (by kernel_rfl) (by kernel_rfl) (fun _ _ _ h => h) (Or.inl ⟨by rfl, ?_⟩) hH ?_
            · (intro w' hE'; (try dsimp only at hE'); have y0 := Ext.keep hE' hf1r; have y1 := Ext.keep hE' hqk; go_simp; try with_reducible rfl)
            try simp only [Act.put, List.setIfInBounds_toArray, List.set_cons_zero, List.set_cons_succ]
            refine wpAnyH_take_dst (i := 14) (v := .int .i64 (V + zk * y)) (d := some 113) rfl rfl (by kernel_rfl) (by kernel_rfl) (by kernel_rfl) (fun _ _ _ h => h) (Or.inl ⟨by rfl, ?_⟩) hH ?_
            · (intro w' hE'; (try dsimp only at hE'); have y0 := Ext.keep hE' hf1r; have y1 := Ext.keep hE' hqk; go_simp; try with_reducible rfl)
            try simp only [Act.put, List.setIfInBounds_toArray, List.set_cons_zero, List.set_cons_succ]
            refine wpAnyH_take_dst (i := 15) (v := .int .i64 (V + zk * y)) (d := some 17) rfl rfl (by kernel_rfl) (by kernel_rfl) (by kernel_rfl) (fun _ _ _ h => h) (Or.inl ⟨by rfl, ?_⟩) hH ?_
            · (intro w' hE'; (try dsimp only at hE'); have y0 := Ext.keep hE' hf1r; have y1 := Ext.keep hE' hqk; go_simp; try with_reducible rfl)
            try simp only [Act.put, List.setIfInBounds_toArray, List.set_cons_zero, List.set_cons_succ]
            refine wpAnyH_done (by kernel_rfl) ?_ _
            exact ⟨by rfl, hH⟩
          obtain ⟨ha, hE16⟩ := hR
          simp only [Act.put, List.setIfInBounds_toArray, List.set_cons_zero, List.set_cons_succ] at ha
          subst ha
          go_wp2_with fail
          go_roundw
          case rel => exact ⟨1 + 1, by go_num, by rw [hnx], by omega, Lib.hid (Ext.trans HER.out hE16)⟩
          case measure => simp only [intOf]; omega
      · obtain rfl : k = fn := by omega
        have hfl2 : k = f.cf.length := by omega
        rw [hfl2] at hV
        have HZ1 := Lib.hid (show valAt arD ps W [9] = V from by rw [← hV]; exact HL.out.z1)
        rw [← hfl2] at hV
        rw [hV]
        clear hV hvb hmb hVX hfl2
        have HTR := Lib.hid (HT14.out.ext HER.out)
        have HWR := Lib.hid (RI.ext HWA.out HER.out)
        have HEL := Lib.hid (Ext.trans HE14.out HER.out)
        have tr := HTR.out.s0
        clear HT14 HWA
        go_wp2_with fail
        have hE17 : Ext wr (wr.alloc (.cells #[.int .i64 9] 2)) := (Ext.refl wr).alloc _
        have HN17 := Lib.hid (show RI (wr.alloc (.cells #[.int .i64 9] 2)) (some ⟨wr.heap.size, 0, none⟩) 1 [9] from (OwI.fresh (w := wr) [9] (by simp)).ri)
        have hna1 : 1 ≤ na := by have := flat_pos a; have := HLA.out; omega
        have hnb1 : 1 ≤ nb := by have := flat_pos b; have := HLB.out; omega
        have HT17 := Lib.hid (HTR.out.ext hE17)
        have HW17 := Lib.hid (RI.ext HWR.out hE17)
        clear HTR HWR tr
        (with_reducible refine (c_valueB HZ1.out HL.out.z2 (RdSig.mk HT17.out.sg) (RdPs.mk HT17.out.pl) (RdI.mk HW17.out) (RdI.mk HN17.out)).mono ?_)
        rintro e w18 ⟨rfl, hE18⟩
        have HT18 := Lib.hid (HT17.out.ext hE18)
        have HW18 := Lib.hid (RI.ext HW17.out hE18)
        have HE18 := Lib.hid (Ext.trans (Ext.trans HEL.out hE17) hE18)
        have t18 := HT18.out.s0
        clear HT17 HW17 HN17
        go_wp2_with fail
        (with_reducible refine (c_strictB HL.out.st (RdSig.mk HT18.out.sg) (RdPs.mk HT18.out.pl)).mono ?_)
        rintro e w19 ⟨rfl, hE19⟩
        have HT19 := Lib.hid (HT18.out.ext hE19)
        have t19 := HT19.out.s0
        have t19b := HT19.out.q0
        clear t18
        go_wp2_with fail
        (with_reducible refine (c_filledB HL.out.s1 HTW.out.sub HPA.out (RdSig.mk HT19.out.sg) (RdSub.mk HT19.out.sub) HT19.out.ta).mono ?_)
        rintro e w20 ⟨QA, qn, qc, rfl, hQA, hE20⟩
        have HQA := Lib.hid hQA
        have HT20 := Lib.hid (HT19.out.ext hE20)
        have HW20 := Lib.hid (RI.ext HW18.out (Ext.trans hE19 hE20))
        have HE20 := Lib.hid (Ext.trans HE18.out (Ext.trans hE19 hE20))
        obtain ⟨lt, hlt2⟩ : ∃ z, cmpLess (formO arD ps a.flat) (formO arD ps b.flat) = z := ⟨_, rfl⟩
        have HLT := Lib.hid hlt2
        have HLL := Lib.hid (show lt = true → cmpLess (formO arD ps S) (formO arD ps W) = true ∧ cmpLess (formO arD ps (1 :: a.flat)) (formO arD ps (1 :: b.flat)) = true from fun e => HL.out.ls (by rw [hlt2, e]))
        clear t19 t19b HT18 HT19 HW18 hQA hlt2
        go_wp2_with fail
        cases lt with
        | false =>
          refine wp_only (R := fun (a0 : Act) (a8 : Act) (w9 : World) => a8 = ((((((((((((((((((((((((((((a0.put (some 142) (.agg #[.slice AS 3 cS])).put (some 143) (.slice AP 3 3)).put (some 144) (.slice TA na ca)).put (some 145) (.slice TB nb cb)).put (some 146) (.bool false)).put (some 147) (.bool true)).put (some 148) (.bool true)).put (some 149) (undef)).put (some 150) (undef)).put (some 151) (undef)).put (some 152) (undef)).put (some 153) (undef)).put (some 154) (undef)).put (some 155) (undef)).put (some 156) (undef)).put (some 157) (undef)).put (some 158) (undef)).put (some 159) (undef)).put (some 160) (undef)).put (some 161) (undef)).put (some 162) (undef)).put (some 163) (undef)).put (some 164) (undef)).put (some 165) (undef)).put (some 166) (undef)).put (some 167) (undef)).put (some 168) (.bool true)).put (some 2) (.bool true)) ∧ Ext w20 w9) ?_ (fun a8 w21 hR => ?_)
          · refine wp_region_held_drew (S := (fun w' => Ext w20 w')) (by kernel_rfl) ((Ext.refl w20).drew) (fun hH => ?_)
            refine wpAnyH_take_dst (i := 0) (v := .agg #[.slice AS 3 cS]) (d := some 142) rfl rfl (by kernel_rfl) (by kernel_rfl) (by kernel_rfl) (fun _ _ _ h => h) (Or.inl ⟨by rfl, ?_⟩) hH ?_
            · (intro w' hE'; (try dsimp only at hE'); have y0 := Ext.keep hE' HT20.out.s0; go_simp; try with_reducible rfl)
            try simp only [Act.put, List.setIfInBounds_toArray, List.set_cons_zero, List.set_cons_succ]
            refine wpAnyH_take_dst (i := 1) (v := .slice AP 3 3) (d := some 143) rfl rfl (by kernel_rfl) (by kernel_rfl) (by kernel_rfl) (fun _ _ _ h => h) (Or.inl ⟨by rfl, ?_⟩) hH ?_
            · (intro w' hE'; (try dsimp only at hE'); have y0 := Ext.keep hE' HT20.out.s0; go_simp; try with_reducible rfl)
            try simp only [Act.put, List.setIfInBounds_toArray, List.set_cons_zero, List.set_cons_succ]
            refine wpAnyH_take_dst (i := 2) (v := .slice TA na ca) (d := some 144) rfl rfl (by kernel_rfl) (by kernel_rfl) (by kernel_rfl) (fun _ _ _ h => h) (Or.inl ⟨by rfl, ?_⟩) hH ?_
            · (intro w' hE'; (try dsimp only at hE'); have y0 := Ext.keep hE' HT20.out.s0; go_simp; try with_reducible rfl)
            try simp only [Act.put, List.setIfInBounds_toArray, List.set_cons_zero, List.set_cons_succ]
            refine wpAnyH_take_dst (i := 3) (v := .slice TB nb cb) (d := some 145) rfl rfl (by kernel_rfl) (by kernel_rfl) (by kernel_rfl) (fun _ _ _ h => h) (Or.inl ⟨by rfl, ?_⟩) hH ?_
            · (intro w' hE'; (try dsimp only at hE'); have y0 := Ext.keep hE' HT20.out.s0; go_simp; try with_reducible rfl)
            try simp only [Act.put, List.setIfInBounds_toArray, List.set_cons_zero, List.set_cons_succ]
            refine wpAnyH_ready (rs := [4]) (by kernel_rfl) (by simp) ?_
            refine AllReadyH.cons rfl (fun K hK => ?_) AllReadyH.nil
            rw [if_pos (by rfl)]
            go_wp2_with fail
            (with_reducible refine (c_polyLessB HLT.out (RdSig.mk (HT20.out.ext hH).sg) (RdPs.mk (HT20.out.ext hH).pl) (RdI.mk (HT20.out.ext hH).ta) (RdI.mk (HT20.out.ext hH).tb)).mono ?_)
            rintro e w9 ⟨rfl, hE9⟩
            refine hK.out _ _ (Ext.trans hH hE9) (fun hH9 => ?_)
            clear hK; have hH0 := hH; clear hH; have hH := hH9; clear hH9
            try simp only [Act.put, List.setIfInBounds_toArray, List.set_cons_zero, List.set_cons_succ]
            refine wpAnyH_take_dst (i := 5) (v := .bool true) (d := some 147) rfl rfl (by kernel_rfl) (by kernel_rfl) (by kernel_rfl) (fun _ _ _ h => h) (Or.inl ⟨by rfl, ?_⟩) hH ?_
            · (intro w' hE'; (try dsimp only at hE'); have y0 := Ext.keep hE' HT20.out.s0; go_simp; try with_reducible rfl)
            try simp only [Act.put, List.setIfInBounds_toArray, List.set_cons_zero, List.set_cons_succ]
            refine wpAnyH_take_dst (i := 6) (v := .bool true) (d := some 148) rfl rfl (by kernel_rfl) (by kernel_rfl) (by kernel_rfl) (fun _ _ _ h => h) (Or.inl ⟨by rfl, ?_⟩) hH ?_
            · (intro w' hE'; (try dsimp only at hE'); have y0 := Ext.keep hE' HT20.out.s0; go_simp; try with_reducible rfl)
            try simp only [Act.put, List.setIfInBounds_toArray, List.set_cons_zero, List.set_cons_succ]
            refine wpAnyH_take_dst (i := 7) (v := undef) (d := some 149) rfl rfl (by kernel_rfl) (by kernel_rfl) (by kernel_rfl) (fun _ _ _ h => h) (Or.inr ⟨by rfl, rfl⟩) hH ?_
            try simp only [Act.put, List.setIfInBounds_toArray, List.set_cons_zero, List.set_cons_succ]
            refine wpAnyH_take_dst (i := 8) (v := undef) (d := some 150) rfl rfl (by kernel_rfl) (by kernel_rfl) (by kernel_rfl) (fun _ _ _ h => h) (Or.inr ⟨by rfl, rfl⟩) hH ?_
            try simp only [Act.put, List.setIfInBounds_toArray, List.set_cons_zero, List.set_cons_succ]
            refine wpAnyH_take_dst (i := 9) (v := undef) (d := some 151) rfl rfl (by kernel_rfl) (by kernel_rfl) (by kernel_rfl) (fun _ _ _ h => h) (Or.inr ⟨by rfl, rfl⟩) hH ?_
            try simp only [Act.put, List.setIfInBounds_toArray, List.set_cons_zero, List.set_cons_succ]
            refine wpAnyH_take_dst (i := 10) (v := undef) (d := some 152) rfl rfl (by kernel_rfl) (by kernel_rfl) (by kernel_rfl) (fun _ _ _ h => h) (Or.inr ⟨by rfl, rfl⟩) hH ?_
            try simp only [Act.put, List.setIfInBounds_toArray, List.set_cons_zero, List.set_cons_succ]
            refine wpAnyH_take_dst (i := 11) (v := undef) (d := some 153) rfl rfl (by kernel_rfl) (by kernel_rfl) (by kernel_rfl) (fun _ _ _ h => h) (Or.inr ⟨by rfl, rfl⟩) hH ?_
            try simp only [Act.put, List.setIfInBounds_toArray, List.set_cons_zero, List.set_cons_succ]
            refine wpAnyH_take_dst (i := 12) (v := undef) (d := some 154) rfl rfl (by kernel_rfl) (by kernel_rfl) (by kernel_rfl) (fun _ _ _ h => h) (Or.inr ⟨by rfl, rfl⟩) hH ?_
            try simp only [Act.put, List.setIfInBounds_toArray, List.set_cons_zero, List.set_cons_succ]
            refine wpAnyH_take_dst (i := 13) (v := undef) (d := some 155) rfl rfl (by kernel_rfl) (by kernel_rfl) (by kernel_rfl) (fun _ _ _ h => h) (Or.inr ⟨by rfl, rfl⟩) hH ?_
            try simp only [Act.put, List.setIfInBounds_toArray, List.set_cons_zero, List.set_cons_succ]
            refine wpAnyH_take_dst (i := 14) (v := undef) (d := some 156) rfl rfl (by kernel_rfl) (by kernel_rfl) (by kernel_rfl) (fun _ _ _ h => h) (Or.inr ⟨by rfl, rfl⟩) hH ?_
            try simp only [Act.put, List.setIfInBounds_toArray, List.set_cons_zero, List.set_cons_succ]
            refine wpAnyH_take_dst (i := 15) (v := undef) (d := some 157) rfl rfl (by kernel_rfl) (by kernel_rfl) (by kernel_rfl) (fun _ _ _ h => h) (Or.inr ⟨by rfl, rfl⟩) hH ?_
            try simp only [Act.put, List.setIfInBounds_toArray, List.set_cons_zero, List.set_cons_succ]
            refine wpAnyH_take_dst (i := 16) (v := undef) (d := some 158) rfl rfl (by kernel_rfl) (by kernel_rfl) (by kernel_rfl) (fun _ _ _ h => h) (Or.inr ⟨by rfl, rfl⟩) hH ?_
            try simp only [Act.put, List.setIfInBounds_toArray, List.set_cons_zero, List.set_cons_succ]
            refine wpAnyH_take_dst (i := 17) (v := undef) (d := some 159) rfl rfl (by kernel_rfl) (by kernel_rfl) (by kernel_rfl) (fun _ _ _ h => h) (Or.inr ⟨by rfl, rfl⟩) hH ?_
            try simp only [Act.put, List.setIfInBounds_toArray, List.set_cons_zero, List.set_cons_succ]
            refine wpAnyH_take_dst (i := 18) (v := undef) (d := some 160) rfl rfl (by kernel_rfl) (by kernel_rfl) (by kernel_rfl) (fun _ _ _ h => h) (Or.inr ⟨by rfl, rfl⟩) hH ?_
            try simp only [Act.put, List.setIfInBounds_toArray, List.set_cons_zero, List.set_cons_succ]
            refine wpAnyH_take_dst (i := 19) (v := undef) (d := some 161) rfl rfl (by kernel_rfl) (by kernel_rfl) (by kernel_rfl) (fun _ _ _ h => h) (Or.inr ⟨by rfl, rfl⟩) hH ?_
            try simp only [Act.put, List.setIfInBounds_toArray, List.set_cons_zero, List.set_cons_succ]
            refine wpAnyH_take_dst (i := 20) (v := undef) (d := some 162) rfl rfl (by kernel_rfl) (by kernel_rfl) (by kernel_rfl) (fun _ _ _ h => h) (Or.inr ⟨by rfl, rfl⟩) hH ?_
            try simp only [Act.put, List.setIfInBounds_toArray, List.set_cons_zero, List.set_cons_succ]
            refine wpAnyH_take_dst (i := 21) (v := undef) (d := some 163) rfl rfl (by kernel_rfl) (by kernel_rfl) (by kernel_rfl) (fun _ _ _ h => h) (Or.inr ⟨by rfl, rfl⟩) hH ?_
            try simp only [Act.put, List.setIfInBounds_toArray, List.set_cons_zero, List.set_cons_succ]
            refine wpAnyH_take_dst (i := 22) (v := undef) (d := some 164) rfl rfl (by kernel_rfl) (by kernel_rfl) (by kernel_rfl) (fun _ _ _ h => h) (Or.inr ⟨by rfl, rfl⟩) hH ?_
            try simp only [Act.put, List.setIfInBounds_toArray, List.set_cons_zero, List.set_cons_succ]
            refine wpAnyH_take_dst (i := 23) (v := undef) (d := some 165) rfl rfl (by kernel_rfl) (by kernel_rfl) (by kernel_rfl) (fun _ _ _ h => h) (Or.inr ⟨by rfl, rfl⟩) hH ?_
            try simp only [Act.put, List.setIfInBounds_toArray, List.set_cons_zero, List.set_cons_succ]
            refine wpAnyH_take_dst (i := 24) (v := undef) (d := some 166) rfl rfl (by kernel_rfl) (by kernel_rfl) (by kernel_rfl) (fun _ _ _ h => h) (Or.inr ⟨by rfl, rfl⟩) hH ?_
            try simp only [Act.put, List.setIfInBounds_toArray, List.set_cons_zero, List.set_cons_succ]
            refine wpAnyH_take_dst (i := 25) (v := undef) (d := some 167) rfl rfl (by kernel_rfl) (by kernel_rfl) (by kernel_rfl) (fun _ _ _ h => h) (Or.inr ⟨by rfl, rfl⟩) hH ?_
            try simp only [Act.put, List.setIfInBounds_toArray, List.set_cons_zero, List.set_cons_succ]
            refine wpAnyH_take_dst (i := 26) (v := .bool true) (d := some 168) rfl rfl (by kernel_rfl) (by kernel_rfl) (by kernel_rfl) (fun _ _ _ h => h) (Or.inl ⟨by rfl, ?_⟩) hH ?_
            · (intro w' hE'; (try dsimp only at hE'); have y0 := Ext.keep hE' HT20.out.s0; go_simp; try with_reducible rfl)
            try simp only [Act.put, List.setIfInBounds_toArray, List.set_cons_zero, List.set_cons_succ]
            refine wpAnyH_take_dst (i := 27) (v := .bool true) (d := some 2) rfl rfl (by kernel_rfl) (by kernel_rfl) (by kernel_rfl) (fun _ _ _ h => h) (Or.inl ⟨by rfl, ?_⟩) hH ?_
            · (intro w' hE'; (try dsimp only at hE'); have y0 := Ext.keep hE' HT20.out.s0; go_simp; try with_reducible rfl)
            try simp only [Act.put, List.setIfInBounds_toArray, List.set_cons_zero, List.set_cons_succ]
            refine wpAnyH_done (by kernel_rfl) ?_ _
            exact ⟨by rfl, hH⟩
          obtain ⟨ha, hE21⟩ := hR
          simp only [Act.put, List.setIfInBounds_toArray, List.set_cons_zero, List.set_cons_succ] at ha
          subst ha
          go_wp2_with fail
          go_ret
          exact ⟨rfl, Ext.trans HE20.out hE21⟩
        | true =>
          refine wp_only (R := fun (a0 : Act) (a8 : Act) (w9 : World) => ∃ (qa : Nat) (qb : Nat) (A20 : Option Addr) (c20 : Nat) (A23 : Option Addr) (c23 : Nat), a8 = ((((((((((((((((((((((((((((a0.put (some 142) (.agg #[.slice AS 3 cS])).put (some 143) (.slice AP 3 3)).put (some 144) (.slice TA na ca)).put (some 145) (.slice TB nb cb)).put (some 146) (.bool true)).put (some 147) (.bool false)).put (some 148) (.bool false)).put (some 149) (.bool true)).put (some 150) (.bool true)).put (some 151) (.agg #[.slice AS 3 cS])).put (some 152) (.slice AP 3 3)).put (some 153) (.slice QA qn qc)).put (some 154) (.slice WA wn wc)).put (some 155) (.bool true)).put (some 156) (.bool true)).put (some 157) (.bool true)).put (some 158) (.agg #[.slice AS 3 cS])).put (some 159) (.slice AP 3 3)).put (some 160) (.slice (some ⟨qa, 0, none⟩) 1 1)).put (some 161) (.slice TA na ca)).put (some 162) (.slice A20 (1 + na) c20)).put (some 163) (.slice (some ⟨qb, 0, none⟩) 1 1)).put (some 164) (.slice TB nb cb)).put (some 165) (.slice A23 (1 + nb) c23)).put (some 166) (.bool true)).put (some 167) (.bool true)).put (some 168) (.bool true)).put (some 2) (.bool true)) ∧ Ext w20 w9) ?_ (fun a8 w21 hR => ?_)
          · refine wp_region_held_drew (S := (fun w' => Ext w20 w')) (by kernel_rfl) ((Ext.refl w20).drew) (fun hH => ?_)
            refine wpAnyH_take_dst (i := 0) (v := .agg #[.slice AS 3 cS]) (d := some 142) rfl rfl (by kernel_rfl) (by kernel_rfl) (by kernel_rfl) (fun _ _ _ h => h) (Or.inl ⟨by rfl, ?_⟩) hH ?_
            · (intro w' hE'; (try dsimp only at hE'); have y0 := Ext.keep hE' HT20.out.s0; go_simp; try with_reducible rfl)
            try simp only [Act.put, List.setIfInBounds_toArray, List.set_cons_zero, List.set_cons_succ]
            refine wpAnyH_take_dst (i := 1) (v := .slice AP 3 3) (d := some 143) rfl rfl (by kernel_rfl) (by kernel_rfl) (by kernel_rfl) (fun _ _ _ h => h) (Or.inl ⟨by rfl, ?_⟩) hH ?_
            · (intro w' hE'; (try dsimp only at hE'); have y0 := Ext.keep hE' HT20.out.s0; go_simp; try with_reducible rfl)
            try simp only [Act.put, List.setIfInBounds_toArray, List.set_cons_zero, List.set_cons_succ]
            refine wpAnyH_take_dst (i := 2) (v := .slice TA na ca) (d := some 144) rfl rfl (by kernel_rfl) (by kernel_rfl) (by kernel_rfl) (fun _ _ _ h => h) (Or.inl ⟨by rfl, ?_⟩) hH ?_
            · (intro w' hE'; (try dsimp only at hE'); have y0 := Ext.keep hE' HT20.out.s0; go_simp; try with_reducible rfl)
            try simp only [Act.put, List.setIfInBounds_toArray, List.set_cons_zero, List.set_cons_succ]
            refine wpAnyH_take_dst (i := 3) (v := .slice TB nb cb) (d := some 145) rfl rfl (by kernel_rfl) (by kernel_rfl) (by kernel_rfl) (fun _ _ _ h => h) (Or.inl ⟨by rfl, ?_⟩) hH ?_
            · (intro w' hE'; (try dsimp only at hE'); have y0 := Ext.keep hE' HT20.out.s0; go_simp; try with_reducible rfl)
            try simp only [Act.put, List.setIfInBounds_toArray, List.set_cons_zero, List.set_cons_succ]
            refine wpAnyH_ready (rs := [4]) (by kernel_rfl) (by simp) ?_
            refine AllReadyH.cons rfl (fun K hK => ?_) AllReadyH.nil
            rw [if_pos (by rfl)]
            go_wp2_with fail
            (with_reducible refine (c_polyLessB HLT.out (RdSig.mk (HT20.out.ext hH).sg) (RdPs.mk (HT20.out.ext hH).pl) (RdI.mk (HT20.out.ext hH).ta) (RdI.mk (HT20.out.ext hH).tb)).mono ?_)
            rintro e w9 ⟨rfl, hE9⟩
            refine hK.out _ _ (Ext.trans hH hE9) (fun hH9 => ?_)
            clear hK; have hH0 := hH; clear hH; have hH := hH9; clear hH9
            try simp only [Act.put, List.setIfInBounds_toArray, List.set_cons_zero, List.set_cons_succ]
            refine wpAnyH_take_dst (i := 5) (v := .bool false) (d := some 147) rfl rfl (by kernel_rfl) (by kernel_rfl) (by kernel_rfl) (fun _ _ _ h => h) (Or.inl ⟨by rfl, ?_⟩) hH ?_
            · (intro w' hE'; (try dsimp only at hE'); have y0 := Ext.keep hE' HT20.out.s0; go_simp; try with_reducible rfl)
            try simp only [Act.put, List.setIfInBounds_toArray, List.set_cons_zero, List.set_cons_succ]
            refine wpAnyH_take_dst (i := 6) (v := .bool false) (d := some 148) rfl rfl (by kernel_rfl) (by kernel_rfl) (by kernel_rfl) (fun _ _ _ h => h) (Or.inl ⟨by rfl, ?_⟩) hH ?_
            · (intro w' hE'; (try dsimp only at hE'); have y0 := Ext.keep hE' HT20.out.s0; go_simp; try with_reducible rfl)
            try simp only [Act.put, List.setIfInBounds_toArray, List.set_cons_zero, List.set_cons_succ]
            refine wpAnyH_take_dst (i := 7) (v := .bool true) (d := some 149) rfl rfl (by kernel_rfl) (by kernel_rfl) (by kernel_rfl) (fun _ _ _ h => h) (Or.inl ⟨by rfl, ?_⟩) hH ?_
            · (intro w' hE'; (try dsimp only at hE'); have y0 := Ext.keep hE' HT20.out.s0; go_simp; try with_reducible rfl)
            try simp only [Act.put, List.setIfInBounds_toArray, List.set_cons_zero, List.set_cons_succ]
            refine wpAnyH_take_dst (i := 8) (v := .bool true) (d := some 150) rfl rfl (by kernel_rfl) (by kernel_rfl) (by kernel_rfl) (fun _ _ _ h => h) (Or.inl ⟨by rfl, ?_⟩) hH ?_
            · (intro w' hE'; (try dsimp only at hE'); have y0 := Ext.keep hE' HT20.out.s0; go_simp; try with_reducible rfl)
            try simp only [Act.put, List.setIfInBounds_toArray, List.set_cons_zero, List.set_cons_succ]
            refine wpAnyH_take_dst (i := 9) (v := .agg #[.slice AS 3 cS]) (d := some 151) rfl rfl (by kernel_rfl) (by kernel_rfl) (by kernel_rfl) (fun _ _ _ h => h) (Or.inl ⟨by rfl, ?_⟩) hH ?_
            · (intro w' hE'; (try dsimp only at hE'); have y0 := Ext.keep hE' HT20.out.s0; go_simp; try with_reducible rfl)
            try simp only [Act.put, List.setIfInBounds_toArray, List.set_cons_zero, List.set_cons_succ]
            refine wpAnyH_take_dst (i := 10) (v := .slice AP 3 3) (d := some 152) rfl rfl (by kernel_rfl) (by kernel_rfl) (by kernel_rfl) (fun _ _ _ h => h) (Or.inl ⟨by rfl, ?_⟩) hH ?_
            · (intro w' hE'; (try dsimp only at hE'); have y0 := Ext.keep hE' HT20.out.s0; go_simp; try with_reducible rfl)
            try simp only [Act.put, List.setIfInBounds_toArray, List.set_cons_zero, List.set_cons_succ]
            refine wpAnyH_take_dst (i := 11) (v := .slice QA qn qc) (d := some 153) rfl rfl (by kernel_rfl) (by kernel_rfl) (by kernel_rfl) (fun _ _ _ h => h) (Or.inl ⟨by rfl, ?_⟩) hH ?_
            · (intro w' hE'; (try dsimp only at hE'); have y0 := Ext.keep hE' HT20.out.s0; go_simp; try with_reducible rfl)
            try simp only [Act.put, List.setIfInBounds_toArray, List.set_cons_zero, List.set_cons_succ]
            refine wpAnyH_take_dst (i := 12) (v := .slice WA wn wc) (d := some 154) rfl rfl (by kernel_rfl) (by kernel_rfl) (by kernel_rfl) (fun _ _ _ h => h) (Or.inl ⟨by rfl, ?_⟩) hH ?_
            · (intro w' hE'; (try dsimp only at hE'); have y0 := Ext.keep hE' HT20.out.s0; go_simp; try with_reducible rfl)
            try simp only [Act.put, List.setIfInBounds_toArray, List.set_cons_zero, List.set_cons_succ]
            refine wpAnyH_ready (rs := [13]) (by kernel_rfl) (by simp) ?_
            refine AllReadyH.cons rfl (fun K hK => ?_) AllReadyH.nil
            rw [if_pos (by rfl)]
            go_wp2_with fail
            (with_reducible refine (c_polyLessB (HLL.out (by trivial)).1 (RdSig.mk (HT20.out.ext hH).sg) (RdPs.mk (HT20.out.ext hH).pl) (RdI.mk (RI.ext HQA.out hH)) (RdI.mk (RI.ext HW20.out hH))).mono ?_)
            rintro e w9 ⟨rfl, hE9⟩
            refine hK.out _ _ (Ext.trans hH hE9) (fun hH9 => ?_)
            clear hK; have hH0 := hH; clear hH; have hH := hH9; clear hH9
            try simp only [Act.put, List.setIfInBounds_toArray, List.set_cons_zero, List.set_cons_succ]
            refine wpAnyH_take_dst (i := 14) (v := .bool true) (d := some 156) rfl rfl (by kernel_rfl) (by kernel_rfl) (by kernel_rfl) (fun _ _ _ h => h) (Or.inl ⟨by rfl, ?_⟩) hH ?_
            · (intro w' hE'; (try dsimp only at hE'); have y0 := Ext.keep hE' HT20.out.s0; go_simp; try with_reducible rfl)
            try simp only [Act.put, List.setIfInBounds_toArray, List.set_cons_zero, List.set_cons_succ]
            refine wpAnyH_take_dst (i := 15) (v := .bool true) (d := some 157) rfl rfl (by kernel_rfl) (by kernel_rfl) (by kernel_rfl) (fun _ _ _ h => h) (Or.inl ⟨by rfl, ?_⟩) hH ?_
            · (intro w' hE'; (try dsimp only at hE'); have y0 := Ext.keep hE' HT20.out.s0; go_simp; try with_reducible rfl)
            try simp only [Act.put, List.setIfInBounds_toArray, List.set_cons_zero, List.set_cons_succ]
            refine wpAnyH_take_dst (i := 16) (v := .agg #[.slice AS 3 cS]) (d := some 158) rfl rfl (by kernel_rfl) (by kernel_rfl) (by kernel_rfl) (fun _ _ _ h => h) (Or.inl ⟨by rfl, ?_⟩) hH ?_
            · (intro w' hE'; (try dsimp only at hE'); have y0 := Ext.keep hE' HT20.out.s0; go_simp; try with_reducible rfl)
            try simp only [Act.put, List.setIfInBounds_toArray, List.set_cons_zero, List.set_cons_succ]
            refine wpAnyH_take_dst (i := 17) (v := .slice AP 3 3) (d := some 159) rfl rfl (by kernel_rfl) (by kernel_rfl) (by kernel_rfl) (fun _ _ _ h => h) (Or.inl ⟨by rfl, ?_⟩) hH ?_
            · (intro w' hE'; (try dsimp only at hE'); have y0 := Ext.keep hE' HT20.out.s0; go_simp; try with_reducible rfl)
            try simp only [Act.put, List.setIfInBounds_toArray, List.set_cons_zero, List.set_cons_succ]
            refine wpAnyH_take_dst (i := 19) (v := .slice TA na ca) (d := some 161) rfl rfl (by kernel_rfl) (by kernel_rfl) (by kernel_rfl) (fun _ _ _ h => h) (Or.inl ⟨by rfl, ?_⟩) hH ?_
            · (intro w' hE'; (try dsimp only at hE'); have y0 := Ext.keep hE' HT20.out.s0; go_simp; try with_reducible rfl)
            try simp only [Act.put, List.setIfInBounds_toArray, List.set_cons_zero, List.set_cons_succ]
            refine wpAnyH_take_dst (i := 22) (v := .slice TB nb cb) (d := some 164) rfl rfl (by kernel_rfl) (by kernel_rfl) (by kernel_rfl) (fun _ _ _ h => h) (Or.inl ⟨by rfl, ?_⟩) hH ?_
            · (intro w' hE'; (try dsimp only at hE'); have y0 := Ext.keep hE' HT20.out.s0; go_simp; try with_reducible rfl)
            try simp only [Act.put, List.setIfInBounds_toArray, List.set_cons_zero, List.set_cons_succ]
            refine wpAnyH_ready (rs := [18, 21]) (by kernel_rfl) (by simp) ?_
            refine AllReadyH.cons rfl (fun K hK => ?_) (AllReadyH.cons rfl (fun K hK => ?_) (AllReadyH.nil))
            · rw [if_pos (by rfl)]
              go_wp2_with fail; have hF18 := one_of hH
              refine hK.out _ _ (hH.alloc _) (fun hH9 => ?_)
              clear hK; have hH0 := hH; clear hH; have hH := hH9; clear hH9
              try simp only [Act.put, List.setIfInBounds_toArray, List.set_cons_zero, List.set_cons_succ]
              refine wpAnyH_ready (rs := [20, 21]) (by kernel_rfl) (by simp) ?_
              refine AllReadyH.cons rfl (fun K hK => ?_) (AllReadyH.cons rfl (fun K hK => ?_) (AllReadyH.nil))
              · rw [if_pos (by rfl)]
                refine wp_append_full (.tmp 160) (.tmp 161) 27 rfl i0 Try.underlying27 hii hiz his hib rfl (by first | exact hF18 _ (by go_size) | exact RI.ext (hF18 _ (by go_size)) ((Ext.refl _).alloc _) | exact RI.ext (hF18 _ (by go_size)) hE23 | exact RI.ext (hF18 _ (by go_size)) (Ext.trans ((Ext.refl _).alloc _) hE23)) rfl (RI.ext HT20.out.ta hH) (by omega) (by omega) (fun A20 c20 w20 hO20 hE20 => ?_); have hR20 : RI w20 A20 (1 + na) (1 :: a.flat) := hO20.ri
                refine hK.out _ _ (Ext.trans hH hE20) (fun hH9 => ?_)
                clear hK; have hH0 := hH; clear hH; have hH := hH9; clear hH9
                try simp only [Act.put, List.setIfInBounds_toArray, List.set_cons_zero, List.set_cons_succ]
                refine wpAnyH_ready (rs := [21]) (by kernel_rfl) (by simp) ?_
                refine AllReadyH.cons rfl (fun K hK => ?_) AllReadyH.nil
                rw [if_pos (by rfl)]
                go_wp2_with fail; have hF21 := one_of hH
                refine hK.out _ _ (hH.alloc _) (fun hH9 => ?_)
                clear hK; have hH0 := hH; clear hH; have hH := hH9; clear hH9
                try simp only [Act.put, List.setIfInBounds_toArray, List.set_cons_zero, List.set_cons_succ]
                refine wpAnyH_ready (rs := [23]) (by kernel_rfl) (by simp) ?_
                refine AllReadyH.cons rfl (fun K hK => ?_) AllReadyH.nil
                rw [if_pos (by rfl)]
                refine wp_append_full (.tmp 163) (.tmp 164) 27 rfl i0 Try.underlying27 hii hiz his hib rfl (by first | exact hF21 _ (by go_size) | exact RI.ext (hF21 _ (by go_size)) ((Ext.refl _).alloc _) | exact RI.ext (hF21 _ (by go_size)) hE20 | exact RI.ext (hF21 _ (by go_size)) (Ext.trans ((Ext.refl _).alloc _) hE20)) rfl (RI.ext HT20.out.tb hH) (by omega) (by omega) (fun A23 c23 w23 hO23 hE23 => ?_); have hR23 : RI w23 A23 (1 + nb) (1 :: b.flat) := hO23.ri
                refine hK.out _ _ (Ext.trans hH hE23) (fun hH9 => ?_)
                clear hK; have hH0 := hH; clear hH; have hH := hH9; clear hH9
                try simp only [Act.put, List.setIfInBounds_toArray, List.set_cons_zero, List.set_cons_succ]
                refine wpAnyH_ready (rs := [24]) (by kernel_rfl) (by simp) ?_
                refine AllReadyH.cons rfl (fun K hK => ?_) AllReadyH.nil
                rw [if_pos (by rfl)]
                go_wp2_with fail
                (with_reducible refine (c_polyLessB (HLL.out (by trivial)).2 (RdSig.mk (HT20.out.ext hH).sg) (RdPs.mk (HT20.out.ext hH).pl) (RdI.mk (A := A20) (n := 1 + na) (c := c20) (by first | exact hR20 | exact RI.ext hR20 hE23 | exact RI.ext hR20 (Ext.trans ((Ext.refl _).alloc _) hE23))) (RdI.mk (A := A23) (n := 1 + nb) (c := c23) (by first | exact hR23 | exact RI.ext hR23 hE20 | exact RI.ext hR23 (Ext.trans ((Ext.refl _).alloc _) hE20)))).mono ?_)
                rintro e w9 ⟨rfl, hE9⟩
                refine hK.out _ _ (Ext.trans hH hE9) (fun hH9 => ?_)
                clear hK; have hH0 := hH; clear hH; have hH := hH9; clear hH9
                try simp only [Act.put, List.setIfInBounds_toArray, List.set_cons_zero, List.set_cons_succ]
                refine wpAnyH_take_dst (i := 25) (v := .bool true) (d := some 167) rfl rfl (by kernel_rfl) (by kernel_rfl) (by kernel_rfl) (fun _ _ _ h => h) (Or.inl ⟨by rfl, ?_⟩) hH ?_
                · (intro w' hE'; (try dsimp only at hE'); have y0 := Ext.keep hE' HT20.out.s0; go_simp; try with_reducible rfl)
                try simp only [Act.put, List.setIfInBounds_toArray, List.set_cons_zero, List.set_cons_succ]
                refine wpAnyH_take_dst (i := 26) (v := .bool true) (d := some 168) rfl rfl (by kernel_rfl) (by kernel_rfl) (by kernel_rfl) (fun _ _ _ h => h) (Or.inl ⟨by rfl, ?_⟩) hH ?_
                · (intro w' hE'; (try dsimp only at hE'); have y0 := Ext.keep hE' HT20.out.s0; go_simp; try with_reducible rfl)
                try simp only [Act.put, List.setIfInBounds_toArray, List.set_cons_zero, List.set_cons_succ]
                refine wpAnyH_take_dst (i := 27) (v := .bool true) (d := some 2) rfl rfl (by kernel_rfl) (by kernel_rfl) (by kernel_rfl) (fun _ _ _ h => h) (Or.inl ⟨by rfl, ?_⟩) hH ?_
                · (intro w' hE'; (try dsimp only at hE'); have y0 := Ext.keep hE' HT20.out.s0; go_simp; try with_reducible rfl)
                try simp only [Act.put, List.setIfInBounds_toArray, List.set_cons_zero, List.set_cons_succ]
                refine wpAnyH_done (by kernel_rfl) ?_ _
                exact ⟨_, _, A20, c20, A23, c23, by rfl, hH⟩
              · rw [if_pos (by rfl)]
                go_wp2_with fail; have hF21 := one_of hH
                refine hK.out _ _ (hH.alloc _) (fun hH9 => ?_)
                clear hK; have hH0 := hH; clear hH; have hH := hH9; clear hH9
                try simp only [Act.put, List.setIfInBounds_toArray, List.set_cons_zero, List.set_cons_succ]
                refine wpAnyH_ready (rs := [20]) (by kernel_rfl) (by simp) ?_
                refine AllReadyH.cons rfl (fun K hK => ?_) AllReadyH.nil
                rw [if_pos (by rfl)]
                refine wp_append_full (.tmp 160) (.tmp 161) 27 rfl i0 Try.underlying27 hii hiz his hib rfl (by first | exact hF18 _ (by go_size) | exact RI.ext (hF18 _ (by go_size)) ((Ext.refl _).alloc _) | exact RI.ext (hF18 _ (by go_size)) hE23 | exact RI.ext (hF18 _ (by go_size)) (Ext.trans ((Ext.refl _).alloc _) hE23)) rfl (RI.ext HT20.out.ta hH) (by omega) (by omega) (fun A20 c20 w20 hO20 hE20 => ?_); have hR20 : RI w20 A20 (1 + na) (1 :: a.flat) := hO20.ri
                refine hK.out _ _ (Ext.trans hH hE20) (fun hH9 => ?_)
                clear hK; have hH0 := hH; clear hH; have hH := hH9; clear hH9
                try simp only [Act.put, List.setIfInBounds_toArray, List.set_cons_zero, List.set_cons_succ]
                refine wpAnyH_ready (rs := [23]) (by kernel_rfl) (by simp) ?_
                refine AllReadyH.cons rfl (fun K hK => ?_) AllReadyH.nil
                rw [if_pos (by rfl)]
                refine wp_append_full (.tmp 163) (.tmp 164) 27 rfl i0 Try.underlying27 hii hiz his hib rfl (by first | exact hF21 _ (by go_size) | exact RI.ext (hF21 _ (by go_size)) ((Ext.refl _).alloc _) | exact RI.ext (hF21 _ (by go_size)) hE20 | exact RI.ext (hF21 _ (by go_size)) (Ext.trans ((Ext.refl _).alloc _) hE20)) rfl (RI.ext HT20.out.tb hH) (by omega) (by omega) (fun A23 c23 w23 hO23 hE23 => ?_); have hR23 : RI w23 A23 (1 + nb) (1 :: b.flat) := hO23.ri
                refine hK.out _ _ (Ext.trans hH hE23) (fun hH9 => ?_)
                clear hK; have hH0 := hH; clear hH; have hH := hH9; clear hH9
                try simp only [Act.put, List.setIfInBounds_toArray, List.set_cons_zero, List.set_cons_succ]
                refine wpAnyH_ready (rs := [24]) (by kernel_rfl) (by simp) ?_
                refine AllReadyH.cons rfl (fun K hK => ?_) AllReadyH.nil
                rw [if_pos (by rfl)]
                go_wp2_with fail
                (with_reducible refine (c_polyLessB (HLL.out (by trivial)).2 (RdSig.mk (HT20.out.ext hH).sg) (RdPs.mk (HT20.out.ext hH).pl) (RdI.mk (A := A20) (n := 1 + na) (c := c20) (by first | exact hR20 | exact RI.ext hR20 hE23 | exact RI.ext hR20 (Ext.trans ((Ext.refl _).alloc _) hE23))) (RdI.mk (A := A23) (n := 1 + nb) (c := c23) (by first | exact hR23 | exact RI.ext hR23 hE20 | exact RI.ext hR23 (Ext.trans ((Ext.refl _).alloc _) hE20)))).mono ?_)
                rintro e w9 ⟨rfl, hE9⟩
                refine hK.out _ _ (Ext.trans hH hE9) (fun hH9 => ?_)
                clear hK; have hH0 := hH; clear hH; have hH := hH9; clear hH9
                try simp only [Act.put, List.setIfInBounds_toArray, List.set_cons_zero, List.set_cons_succ]
                refine wpAnyH_take_dst (i := 25) (v := .bool true) (d := some 167) rfl rfl (by kernel_rfl) (by kernel_rfl) (by kernel_rfl) (fun _ _ _ h => h) (Or.inl ⟨by rfl, ?_⟩) hH ?_
                · (intro w' hE'; (try dsimp only at hE'); have y0 := Ext.keep hE' HT20.out.s0; go_simp; try with_reducible rfl)
                try simp only [Act.put, List.setIfInBounds_toArray, List.set_cons_zero, List.set_cons_succ]
                refine wpAnyH_take_dst (i := 26) (v := .bool true) (d := some 168) rfl rfl (by kernel_rfl) (by kernel_rfl) (by kernel_rfl) (fun _ _ _ h => h) (Or.inl ⟨by rfl, ?_⟩) hH ?_
                · (intro w' hE'; (try dsimp only at hE'); have y0 := Ext.keep hE' HT20.out.s0; go_simp; try with_reducible rfl)
                try simp only [Act.put, List.setIfInBounds_toArray, List.set_cons_zero, List.set_cons_succ]
                refine wpAnyH_take_dst (i := 27) (v := .bool true) (d := some 2) rfl rfl (by kernel_rfl) (by kernel_rfl) (by kernel_rfl) (fun _ _ _ h => h) (Or.inl ⟨by rfl, ?_⟩) hH ?_
                · (intro w' hE'; (try dsimp only at hE'); have y0 := Ext.keep hE' HT20.out.s0; go_simp; try with_reducible rfl)
                try simp only [Act.put, List.setIfInBounds_toArray, List.set_cons_zero, List.set_cons_succ]
                refine wpAnyH_done (by kernel_rfl) ?_ _
                exact ⟨_, _, A20, c20, A23, c23, by rfl, hH⟩
            · rw [if_pos (by rfl)]
              go_wp2_with fail; have hF21 := one_of hH
              refine hK.out _ _ (hH.alloc _) (fun hH9 => ?_)
              clear hK; have hH0 := hH; clear hH; have hH := hH9; clear hH9
              try simp only [Act.put, List.setIfInBounds_toArray, List.set_cons_zero, List.set_cons_succ]
              refine wpAnyH_ready (rs := [18]) (by kernel_rfl) (by simp) ?_
              refine AllReadyH.cons rfl (fun K hK => ?_) AllReadyH.nil
              rw [if_pos (by rfl)]
              go_wp2_with fail; have hF18 := one_of hH
              refine hK.out _ _ (hH.alloc _) (fun hH9 => ?_)
              clear hK; have hH0 := hH; clear hH; have hH := hH9; clear hH9
              try simp only [Act.put, List.setIfInBounds_toArray, List.set_cons_zero, List.set_cons_succ]
              refine wpAnyH_ready (rs := [20]) (by kernel_rfl) (by simp) ?_
              refine AllReadyH.cons rfl (fun K hK => ?_) AllReadyH.nil
              rw [if_pos (by rfl)]
              refine wp_append_full (.tmp 160) (.tmp 161) 27 rfl i0 Try.underlying27 hii hiz his hib rfl (by first | exact hF18 _ (by go_size) | exact RI.ext (hF18 _ (by go_size)) ((Ext.refl _).alloc _) | exact RI.ext (hF18 _ (by go_size)) hE23 | exact RI.ext (hF18 _ (by go_size)) (Ext.trans ((Ext.refl _).alloc _) hE23)) rfl (RI.ext HT20.out.ta hH) (by omega) (by omega) (fun A20 c20 w20 hO20 hE20 => ?_); have hR20 : RI w20 A20 (1 + na) (1 :: a.flat) := hO20.ri
              refine hK.out _ _ (Ext.trans hH hE20) (fun hH9 => ?_)
              clear hK; have hH0 := hH; clear hH; have hH := hH9; clear hH9
              try simp only [Act.put, List.setIfInBounds_toArray, List.set_cons_zero, List.set_cons_succ]
              refine wpAnyH_ready (rs := [23]) (by kernel_rfl) (by simp) ?_
              refine AllReadyH.cons rfl (fun K hK => ?_) AllReadyH.nil
              rw [if_pos (by rfl)]
              refine wp_append_full (.tmp 163) (.tmp 164) 27 rfl i0 Try.underlying27 hii hiz his hib rfl (by first | exact hF21 _ (by go_size) | exact RI.ext (hF21 _ (by go_size)) ((Ext.refl _).alloc _) | exact RI.ext (hF21 _ (by go_size)) hE20 | exact RI.ext (hF21 _ (by go_size)) (Ext.trans ((Ext.refl _).alloc _) hE20)) rfl (RI.ext HT20.out.tb hH) (by omega) (by omega) (fun A23 c23 w23 hO23 hE23 => ?_); have hR23 : RI w23 A23 (1 + nb) (1 :: b.flat) := hO23.ri
              refine hK.out _ _ (Ext.trans hH hE23) (fun hH9 => ?_)
              clear hK; have hH0 := hH; clear hH; have hH := hH9; clear hH9
              try simp only [Act.put, List.setIfInBounds_toArray, List.set_cons_zero, List.set_cons_succ]
              refine wpAnyH_ready (rs := [24]) (by kernel_rfl) (by simp) ?_
              refine AllReadyH.cons rfl (fun K hK => ?_) AllReadyH.nil
              rw [if_pos (by rfl)]
              go_wp2_with fail
              (with_reducible refine (c_polyLessB (HLL.out (by trivial)).2 (RdSig.mk (HT20.out.ext hH).sg) (RdPs.mk (HT20.out.ext hH).pl) (RdI.mk (A := A20) (n := 1 + na) (c := c20) (by first | exact hR20 | exact RI.ext hR20 hE23 | exact RI.ext hR20 (Ext.trans ((Ext.refl _).alloc _) hE23))) (RdI.mk (A := A23) (n := 1 + nb) (c := c23) (by first | exact hR23 | exact RI.ext hR23 hE20 | exact RI.ext hR23 (Ext.trans ((Ext.refl _).alloc _) hE20)))).mono ?_)
              rintro e w9 ⟨rfl, hE9⟩
              refine hK.out _ _ (Ext.trans hH hE9) (fun hH9 => ?_)
              clear hK; have hH0 := hH; clear hH; have hH := hH9; clear hH9
              try simp only [Act.put, List.setIfInBounds_toArray, List.set_cons_zero, List.set_cons_succ]
              refine wpAnyH_take_dst (i := 25) (v := .bool true) (d := some 167) rfl rfl (by kernel_rfl) (by kernel_rfl) (by kernel_rfl) (fun _ _ _ h => h) (Or.inl ⟨by rfl, ?_⟩) hH ?_
              · (intro w' hE'; (try dsimp only at hE'); have y0 := Ext.keep hE' HT20.out.s0; go_simp; try with_reducible rfl)
              try simp only [Act.put, List.setIfInBounds_toArray, List.set_cons_zero, List.set_cons_succ]
              refine wpAnyH_take_dst (i := 26) (v := .bool true) (d := some 168) rfl rfl (by kernel_rfl) (by kernel_rfl) (by kernel_rfl) (fun _ _ _ h => h) (Or.inl ⟨by rfl, ?_⟩) hH ?_
              · (intro w' hE'; (try dsimp only at hE'); have y0 := Ext.keep hE' HT20.out.s0; go_simp; try with_reducible rfl)
              try simp only [Act.put, List.setIfInBounds_toArray, List.set_cons_zero, List.set_cons_succ]
              refine wpAnyH_take_dst (i := 27) (v := .bool true) (d := some 2) rfl rfl (by kernel_rfl) (by kernel_rfl) (by kernel_rfl) (fun _ _ _ h => h) (Or.inl ⟨by rfl, ?_⟩) hH ?_
              · (intro w' hE'; (try dsimp only at hE'); have y0 := Ext.keep hE' HT20.out.s0; go_simp; try with_reducible rfl)
              try simp only [Act.put, List.setIfInBounds_toArray, List.set_cons_zero, List.set_cons_succ]
              refine wpAnyH_done (by kernel_rfl) ?_ _
              exact ⟨_, _, A20, c20, A23, c23, by rfl, hH⟩
          obtain ⟨qa, qb, A20, c20, A23, c23, ha, hE21⟩ := hR
          simp only [Act.put, List.setIfInBounds_toArray, List.set_cons_zero, List.set_cons_succ] at ha
          subst ha
          go_wp2_with fail
          go_ret
          exact ⟨rfl, Ext.trans HE20.out hE21⟩

set_option maxRecDepth 100000 in
theorem lifted (os : Os) (started : os.Started) (H : Type) (enc : TypeId × Value → H) :
    ReturnsInHanded {} Try.checked os 3 .any (Rows.fnPolyFormsSpec.pre6 enc Try.prog Try.f3 Rows.fnPolyFormsRow.domain false) (Rows.fnPolyFormsSpec.post enc Try.prog Try.f3 false true false false) := by
  refine returnsInHanded_of_change (C := Try.checked) own started (by kernel_rfl) Try.func3
    (ChangeSpec.witness6 (enc := enc) (C := Try.checked) false ⟨#[], #[.slice none 0 0], []⟩ 8 (by kernel_rfl) (by kernel_rfl) (by kernel_rfl) (by kernel_rfl)) ?_
  intro W base args ds gs before hval0 hW hcnd _
  have hval : ∀ (j : Nat) t v, Try.f3.params[j]? = some t → args[j]? = some v → Value.okWide Try.prog W .any base t v := hval0
  have hW' := hW
  obtain ⟨p, q, hA0, hV, rfl, hfz, hnd⟩ := hW
  have hA : DataW.TrodAll enc Try.prog W 0 (fun _ => true) true Try.f3.params.toList args.toList ds p := hA0
  rw [Try.params3] at hA hval
  obtain ⟨v0, vs0, d0, ds0, p0, q0, hargs, rfl, rfl, h0, r0⟩ := trodAll_cons hA
  obtain ⟨rfl, rfl, rfl⟩ := trodAll_nil r0
  obtain rfl : args = #[v0] := by cases args; simp_all
  obtain ⟨rfl, rfl⟩ := trodVars_none hV
  have k0 := h0
  have lt0 : ∀ x ∈ p0, x.block < W.heap.size := by obtain ⟨m, hm⟩ := k0; exact DataW.trod_lt m _ _ _ hm
  obtain ⟨x0, w0⟩ := raw_By (hval 0 22 v0 rfl rfl) h0
  clear hA0 hval0
  refine (walk w0).mono fun e W' ⟨he, bel⟩ => ?_
  subst he
  exact ⟨_, rfl, _, _, _, [], _, [], hW', trodAll_mk1 (shut_bool Try.underlying4 _), (trodAll_cons_mk (Below.trod laidOut (by kernel_rfl) (of_decide_eq_true (by kernel_rfl)) k0 bel lt0) trodAll_mk0), rfl, bel.frame _, fun h => by cases h⟩

theorem over : Rows.fnPolyFormsRow.holds Try.pinned (OpenSpec.ofChange Rows.fnPolyFormsSpec) :=
  OpenClaim.holds_of_wide 3 Try.f3 rfl rfl rfl rfl rfl rfl rfl ⟨rfl, rfl, rfl, rfl, rfl⟩ rfl rfl rfl rfl rfl (by kernel_rfl) Try.func3 (by kernel_rfl)
    (of_decide_eq_true (by kernel_rfl)) (by unfold Func.isWrapper; first | (rw [if_pos (by decide +kernel)]; kernel_rfl) | (rw [if_neg (by decide +kernel)]; exact ⟨rfl, rfl⟩))
    (fun os started H enc _ => lifted os started H enc)

theorem proved : Rows.FnPolyFormsSaid := over

end Go.Proofs.Ytljbjabgdalabaa.FnPolyForms
