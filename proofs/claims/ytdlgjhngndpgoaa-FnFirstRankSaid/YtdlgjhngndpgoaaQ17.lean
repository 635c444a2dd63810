/- Several texts in one: CoG, CoH, MDep, MLpo, MLpoA. -/
import Derived.Test.YtdlgjhngndpgoaaQ09
import Derived.Test.YtdlgjhngndpgoaaQ10
import Derived.Test.YtdlgjhngndpgoaaQ16
import Derived.Test.YtdlgjhngndpgoaaQ12
import Derived.Test.YtdlgjhngndpgoaaQ13
namespace Go.Proofs.Ytdlgjhngndpgoaa
open Go.Conc
set_option linter.unusedVariables false
set_option linter.unusedSimpArgs false
noncomputable def lstR : Nat → List Int → List (List Int)
  | 0, us => [us]
  | k + 1, us => us :: if nextB us = true then lstR k (nextV us) else []
def VI (us : List Int) (x : Value) (b : Nat) (w : World) : Prop :=
  ∃ c, x = .slice (some ⟨b, 0, none⟩) us.length c ∧ 0 < us.length ∧ OwI w 0 (some ⟨b, 0, none⟩) us.length c us
theorem VI_ok : VOk VI := fun r x b w w1 h e => by
  obtain ⟨c, h1, h2, h3⟩ := h
  exact ⟨c, h1, h2, h3.heap fun g hg => by cases hg; exact e⟩
noncomputable def body_r : Code := Try.f51.body.getD .skip
noncomputable def loop_r : Code := match body_r with | .seq _ (.seq (.seq _ (.block _ (.loop c))) _) => c | _ => .skip
noncomputable def first_r : Code := match loop_r with | .seq r _ => r | _ => .skip
noncomputable def round_r : Code := match loop_r with | .seq _ r => r | _ => .skip
noncomputable def last_r : Code := match body_r with | .seq _ (.seq _ r) => r | _ => .skip
def Sd (m c : Nat) (more : Bool) (us : List Int) (a : Act) (v : World) : Prop :=
  a.tmps.size = 15 ∧ a.tmps[1]? = some (pz (LM m).bad (.chan (some c))) ∧ a.tmps[5]? = some (.bool more) ∧
    (more = true → permOk us = true ∧ 0 < us.length ∧ ∃ g cp, a.tmps[4]? = some (.slice (some ⟨g, 0, none⟩) us.length cp) ∧ OwI v 0 (some ⟨g, 0, none⟩) us.length cp us)
theorem X (m : Nat) : Cx Try.prog (LM m) := ⟨PLM m, gM m, FnsM m⟩
theorem OwI.blkC {v : World} {B n c : Nat} {A : Option Addr} {us : List Int} (h : OwI v B A n c us) (hn : 0 < n) : ∃ g cur, A = some ⟨g, 0, none⟩ ∧ B ≤ g ∧ v.heap[g]? = some (.cells cur 2) ∧ n ≤ c ∧ us.length = n ∧ n ≤ 4194304 ∧ (∀ (j : Nat) (y : Int), us[j]? = some y → cur[j]? = some (.int .i64 y)) ∧
    ∀ (v' : World) (cur' : Array Value) (g' B' : Nat), B' ≤ g' → v'.heap[g']? = some (.cells cur' 2) → cur'.size = cur.size → (∀ (j : Nat) (y : Int), us[j]? = some y → cur'[j]? = some (.int .i64 y)) → OwI v' B' (some ⟨g', 0, none⟩) n c us := by
  obtain ⟨h0, hl, h1⟩ := h
  have hul : us.length = n := by simpa using hl
  rcases h1 with ⟨e, _⟩ | ⟨g, cap, cur, e0, hb, hg, hn2, hm, hs, ht⟩
  · injection e with _ e; omega
  · injection e0 with e1 _ e3
    subst e1; subst e3
    have hat : ∀ (c' : Array Value), c'.toList.take (n * 1) = us.map (Value.int .i64) ↔ (∀ (j : Nat) (y : Int), us[j]? = some y → c'[j]? = some (.int .i64 y)) ∨ c'.toList.take (n * 1) = us.map (Value.int .i64) := fun c' => by
      constructor
      · exact .inr
      · rintro (h | h)
        · apply List.ext_getElem?
          intro j
          rw [List.getElem?_take, Nat.mul_one, List.getElem?_map, Array.getElem?_toList]
          by_cases hj : j < n
          · rw [if_pos hj]
            have hju : j < us.length := by omega
            rw [List.getElem?_eq_getElem hju]
            exact h j _ (List.getElem?_eq_getElem hju)
          · rw [if_neg hj, List.getElem?_eq_none (by omega)]; rfl
        · exact h
    refine ⟨g, cur, rfl, hb, hg, hn2, hul, h0, fun j y hj => ?_, fun v' cur' g' B' hb' h1 h2 h3 => ⟨h0, hl, .inr ⟨g', c, cur', rfl, hb', h1, hn2, hm, by rw [h2]; exact hs, (hat cur').2 (.inl h3)⟩⟩⟩
    have := congrArg (fun l => l[j]?) ht
    simp only [List.getElem?_take, Nat.mul_one, List.getElem?_map, Array.getElem?_toList] at this
    have hjn : j < n := by have := (List.getElem?_eq_some_iff.1 hj).1; omega
    rw [if_pos hjn, hj] at this
    exact this
set_option maxRecDepth 100000
theorem eval_tmp {a : Act} {t : Nat} {x : Value} (h : a.tmps[t]? = some x) : a.eval (.tmp t) = x := by
  show a.tmps.getD t undef = x
  rw [Array.getD_eq_getD_getElem?, h]; rfl
theorem put_get {a : Act} {t j : Nat} {x : Value} : (a.put (some t) x).tmps[j]? = if t = j then (if t < a.tmps.size then some x else none) else a.tmps[j]? := by
  unfold Act.put
  show (a.tmps.setIfInBounds t x)[j]? = _
  rw [Array.getElem?_setIfInBounds]
theorem put_size {a : Act} {t : Nat} {x : Value} : (a.put (some t) x).tmps.size = a.tmps.size := by
  unfold Act.put
  simp
theorem Sd.put {m c t : Nat} {more : Bool} {us : List Int} {a : Act} {v : World} {x : Value} (h : Sd m c more us a v) (h1 : t ≠ 1) (h4 : t ≠ 4) (h5 : t ≠ 5) : Sd m c more us (a.put (some t) x) v := by
  obtain ⟨k0, k1, k2, k3⟩ := h
  refine ⟨by rw [put_size, k0], by rw [put_get, if_neg h1, k1], by rw [put_get, if_neg h5, k2], fun hm => ?_⟩
  obtain ⟨q1, q2, g, cp, q3, q4⟩ := k3 hm
  exact ⟨q1, q2, g, cp, by rw [put_get, if_neg h4, q3], q4⟩
section
variable {m c : Nat} {rs : List (List Int)} {A : An}
theorem bD : (baseD 51).kind ≠ .early := by simp [baseD]
theorem xtmp (t : Nat) : XOK (LM m) (.tmp t) := trivial
theorem snd_end : Wk Try.prog (LM m) false (SStop Try.prog c VI []) A (baseD 51) [botF Try.prog] [.code last_r] (Sd m c false []) := by
  simp only [last_r, body_r, Try.f51, Option.getD_some]
  refine Wk.reg (l := [0, 1]) rfl ?_
  refine Wk.mv (Ψ := fun a v => a.tmps[14]? = some (pz (LM m).bad (.chan (some c)))) (X m) bD rfl (.inl rfl) rfl (d := some 14) rfl (xtmp 1) (fun a v h => ?_) ?_
  · rw [put_get, if_pos rfl, if_pos (by rw [h.1]; decide), eval_tmp h.2.1]
  exact Wk.close rfl rfl rfl (xtmp 14) (fun a v h => eval_tmp h) Try.func51 rfl (by kernel_rfl) (fun a => by simp [mayWake, G, Frame.at])
def Sd2 (m c : Nat) (us : List Int) (a : Act) (v : World) : Prop :=
  Sd m c true us a v ∧ a.tmps[11]? = some (pz (LM m).bad (.chan (some c))) ∧ ∃ g cp g2 cp2, g ≠ g2 ∧ a.tmps[4]? = some (.slice (some ⟨g, 0, none⟩) us.length cp) ∧ OwI v 0 (some ⟨g, 0, none⟩) us.length cp us ∧
    a.tmps[13]? = some (.slice (some ⟨g2, 0, none⟩) us.length cp2) ∧ OwI v 0 (some ⟨g2, 0, none⟩) us.length cp2 us
theorem resend {γ : Bl} {us : List Int} {T U : Array Value} {v w : World} {g cp : Nat} (hT : VsRel (LM m) γ T U) (hW : WRel (LM m) γ v w) (h4 : T[4]? = some (.slice (some ⟨g, 0, none⟩) us.length cp)) (h1 : T[1]? = some (pz (LM m).bad (.chan (some c)))) (h5 : T[5]? = some (.bool true))
    (hO : OwI v 0 (some ⟨g, 0, none⟩) us.length cp us) (hp : permOk us = true) (hu : 0 < us.length) (hz : T.size = 15) {x : Nat} (hx : γ g = some x) :
    ∃ T' v', VsRel (LM m) (fun k => if k = g then some x else none) T' U ∧ WRel (LM m) (fun k => if k = g then some x else none) v' w ∧ Sd m c true us ⟨T', []⟩ v' := by
  obtain ⟨g', cur, e, _, hg, hc, _, hl, hat, hmk⟩ := hO.blkC hu
  cases e
  obtain ⟨d, hd, hcd⟩ := hW.row hx hg
  let γ' : Bl := fun k => if k = g then some x else none
  have hγ : ∀ k y, γ' k = some y → k = g ∧ y = x := fun k y e => by
    simp only [γ'] at e
    split at e
    · cases e; exact ⟨by assumption, rfl⟩
    · cases e
  have hgg : γ' g = some x := by simp [γ']
  obtain ⟨v', s1, _, _, _, _, hW', hcell⟩ := rebuild (L := LM m) (γ := γ') v w (fun k y e => by
    obtain ⟨rfl, rfl⟩ := hγ k y e
    exact ⟨lt_of_heap hg, d, _, _, hd⟩) (fun k l y e1 e2 => (hγ k y e1).1.trans (hγ l y e2).1.symm) (Nat.zero_le _) (Nat.zero_le _)
  obtain ⟨c', hc1, hc2, hc3⟩ := hcell g x d _ _ hgg hd
  obtain ⟨T', hT1, hT2⟩ := exists_wish (L := LM m) (γ := γ') T U
  refine ⟨T', v', hT1, hW', by show T'.size = 15; rw [hT1.1, ← hT.1, hz], ?_, ?_, fun _ => ⟨hp, hu, g, cp, ?_, hmk v' c' g 0 (Nat.zero_le _) hc1 (by rw [hc2, hcd.1]) fun j y hj => ?_⟩⟩
  · obtain ⟨y, hy, hr⟩ := hT.get h1
    have := pz_inv hr
    subst this
    exact hT2 1 _ _ h1 hy (.poison ⟨by simp, by simp, by simp⟩)
  · obtain ⟨y, hy, hr⟩ := hT.get h5
    cases hr
    exact hT2 5 _ _ h5 hy (.bool _)
  · obtain ⟨y, hy, hr⟩ := hT.get h4
    obtain ⟨x', rfl, hx', h6, h7⟩ := slice_inv hu hr
    rw [hx] at hx'; cases hx'
    refine hT2 4 _ _ h4 hy (.slice _ _ ⟨hgg, rfl, rfl, h6, h7⟩)
  · obtain ⟨y', hy', hr⟩ := hcd.get (hat j y hj)
    have := int_inv hr
    subst this
    exact hc3 j _ _ (by rw [hg]; exact hat j y hj) hy' (.int _ _)
theorem sd2_ins {us : List Int} : Ins (Sd2 m c us) := fun a v τ d h => h
theorem snd_loop : ∀ (k : Nat) (us : List Int), muR us ≤ k → ∀ A, Wk Try.prog (LM m) false (SStop Try.prog c VI (lstR k us)) A (baseD 51) [botF Try.prog] [.code loop_r, .inLoop loop_r, .inBlock 0, .code last_r] (Sd m c true us) := by
  have hle : loop_r = .seq first_r round_r := by simp only [first_r, round_r, loop_r, body_r, Try.f51, Option.getD_some]
  have head0 : ∀ (rs : List (List Int)) (more : Bool) (us : List Int) (A : An) (k0 k1 : List Item), exitTo 0 k0 = some k1 → (more = false → Wk Try.prog (LM m) false (SStop Try.prog c VI rs) A (baseD 51) [botF Try.prog] k1 (Sd m c more us)) →
      (more = true → Wk Try.prog (LM m) false (SStop Try.prog c VI rs) A (baseD 51) [botF Try.prog] (.code round_r :: k0) (Sd m c more us)) →
      Wk Try.prog (LM m) false (SStop Try.prog c VI rs) A (baseD 51) [botF Try.prog] (.code first_r :: .code round_r :: k0) (Sd m c more us) := by
    intro rs more us A k0 k1 hex h1 h2
    generalize round_r = RR at h2 ⊢
    simp only [first_r, loop_r, body_r, Try.f51, Option.getD_some]
    refine Wk.seq (Wk.reg (l := [0]) rfl ?_)
    refine Wk.mv (Ψ := fun a v => Sd m c more us a v ∧ a.tmps[8]? = some (.bool more)) (X m) bD rfl (.inl rfl) rfl (d := some 8) rfl (xtmp 5) (fun a v h => ⟨h.put (by decide) (by decide) (by decide), ?_⟩) ?_
    · rw [put_get, if_pos rfl, if_pos (by rw [h.1]; decide), eval_tmp h.2.2.1]
    refine Wk.regionEnd (Wk.cond (xtmp 8) (fun a v h => ⟨more, eval_tmp h.2⟩) ?_ ?_)
    · cases more with
      | true => exact Wk.skip ((h2 rfl).mono fun a v h => h.1.1)
      | false =>
        intro γ ag a v w O hp
        have := eval_tmp hp.1.2
        rw [hp.2] at this; cases this
    · cases more with
      | false => exact Wk.exit (k' := k1) hex ((h1 rfl).mono fun a v h => h.1.1)
      | true =>
        intro γ ag a v w O hp
        have := eval_tmp hp.1.2
        rw [hp.2] at this; cases this
  have head : ∀ (rs : List (List Int)) (more : Bool) (us : List Int) (A : An), (more = false → Wk Try.prog (LM m) false (SStop Try.prog c VI rs) A (baseD 51) [botF Try.prog] [.code last_r] (Sd m c more us)) →
      (more = true → Wk Try.prog (LM m) false (SStop Try.prog c VI rs) A (baseD 51) [botF Try.prog] [.code round_r, .inLoop loop_r, .inBlock 0, .code last_r] (Sd m c more us)) →
      Wk Try.prog (LM m) false (SStop Try.prog c VI rs) A (baseD 51) [botF Try.prog] [.code loop_r, .inLoop loop_r, .inBlock 0, .code last_r] (Sd m c more us) := by
    intro rs more us A h1 h2
    have := Wk.seq (head0 rs more us A [.inLoop loop_r, .inBlock 0, .code last_r] [.code last_r] rfl h1 h2)
    rwa [← hle] at this
  have body : ∀ (rs : List (List Int)) (us : List Int), ∀ k0, (∀ A, Wk Try.prog (LM m) false (SStop Try.prog c VI rs) A (baseD 51) [botF Try.prog] k0 (Sd m c (nextB us) (nextV us))) →
      ∀ A, Wk Try.prog (LM m) false (SStop Try.prog c VI (us :: rs)) A (baseD 51) [botF Try.prog] (.code round_r :: k0) (Sd m c true us) := by
    intro rs us k0 ih A
    simp only [round_r, loop_r, body_r, Try.f51, Option.getD_some]
    refine Wk.seq (Wk.block (Wk.reg (l := [0, 1, 2, 3]) rfl ?_))
    refine Wk.mv (Ψ := fun a v => Sd m c true us a v ∧ a.tmps[11]? = some (pz (LM m).bad (.chan (some c)))) (X m) bD rfl (.inl rfl) rfl (d := some 11) rfl (xtmp 1) (fun a v h => ⟨h.put (by decide) (by decide) (by decide), ?_⟩) ?_
    · rw [put_get, if_pos rfl, if_pos (by rw [h.1]; decide), eval_tmp h.2.1]
    refine Wk.mv (Ψ := fun a v => Sd m c true us a v ∧ a.tmps[11]? = some (pz (LM m).bad (.chan (some c))) ∧ a.tmps[12]? = a.tmps[4]?) (X m) bD rfl (.inl rfl) rfl (d := some 12) rfl (xtmp 4) (fun a v h => ⟨h.1.put (by decide) (by decide) (by decide), ?_, ?_⟩) ?_
    · rw [put_get, if_neg (by decide), h.2]
    · obtain ⟨_, _, g, cp, h4, _⟩ := h.1.2.2.2 rfl
      rw [put_get, if_pos rfl, if_pos (by rw [h.1.1]; decide), put_get, if_neg (by decide), eval_tmp h4, h4]
    refine Wk.call (Ψ := Sd2 m c us) (X m) bD rfl rfl rfl (d := some 13) rfl (by show fnB _ = true; kernel_rfl) (tmpB_ok (by kernel_rfl)) (fun x hx => by simp at hx; subst hx; exact trivial) (fun a v τ d h => h) sd2_ins (fun a v h hd => ?_) ?_
    · obtain ⟨hS, h11, h12⟩ := h
      obtain ⟨hp, hu, g, cp, h4, hO⟩ := hS.2.2.2 rfl
      rw [h4] at h12
      have he : (#[Operand.tmp 12].map a.eval) = #[.slice (some ⟨g, 0, none⟩) us.length cp] := by simp [eval_tmp h12]
      rw [he]
      refine (c_clone hO.ri).mono fun e v' h => ?_
      obtain ⟨A2, n2, c2, rfl, hO2, hE⟩ := h
      have hn2 : us.length = n2 := hO2.len
      subst hn2
      obtain ⟨g2, cur, rfl, hg2, _⟩ := hO2.blkC hu
      have hlt := (hO.bd g 0 none rfl).2
      have hS' : Sd m c true us (a.put (some 13) (.slice (some ⟨g2, 0, none⟩) us.length c2)) v' := by
        obtain ⟨k0, k1, k2, _⟩ := hS.put (t := 13) (x := .slice (some ⟨g2, 0, none⟩) us.length c2) (by decide) (by decide) (by decide)
        exact ⟨k0, k1, k2, fun _ => ⟨hp, hu, g, cp, by rw [put_get, if_neg (by decide), h4], hO.ext hE⟩⟩
      exact ⟨_, rfl, hS', by rw [put_get, if_neg (by decide), h11], g, cp, g2, c2, by omega, by rw [put_get, if_neg (by decide), h4], hO.ext hE, by rw [put_get, if_pos rfl, if_pos (by rw [hS.1]; decide)], hO2.lower (Nat.zero_le _)⟩
    -- the send
    refine Wk.send bD rfl rfl rfl (xtmp 11) (fun a v h => eval_tmp h.2.1) fun γ ag a v w O hp k2 k3 k4 k5 k6 k7 => ?_
    obtain ⟨hS, h11, g, cp, g2, cp2, hne, h4, hO, h13, hO2⟩ := hp
    obtain ⟨hpm, hu, _⟩ := hS.2.2.2 rfl
    obtain ⟨y4, hy4, hr4⟩ := k4.get h4
    obtain ⟨x4, rfl, hx4, _⟩ := slice_inv hu hr4
    obtain ⟨y13, hy13, hr13⟩ := k4.get h13
    obtain ⟨bk, rfl, hbk, _⟩ := slice_inv hu hr13
    obtain ⟨g2', cur2, e2, _, hg2, _, _, hl2, hat2, hmk2⟩ := hO2.blkC hu
    cases e2
    obtain ⟨d2, hd2, hcd2⟩ := k5.row hbk hg2
    have hxb : x4 ≠ bk := fun e => hne (k5.inj g g2 x4 hx4 (e ▸ hbk))
    refine ⟨bk, k6 _ _ hbk, ⟨cp2, eval_tmp hy13, hu, hmk2 w d2 bk 0 (Nat.zero_le _) hd2 hcd2.1.symm fun j y hj => ?_⟩, fun w2 hr2 => ?_⟩
    · obtain ⟨y', hy', hr⟩ := hcd2.get (hat2 j y hj)
      rw [hy', int_inv hr]
    · obtain ⟨T', v', q1, q2, q3⟩ := resend (c := c) (w := w) k4 k5 h4 hS.2.1 hS.2.2.1 hO hpm hu hS.1 hx4
      have hn' : Named (fun z => O z ∧ z ≠ bk) (fun k => if k = g then some x4 else none) := fun k z e => by
        dsimp only at e
        split at e
        · cases e; exact ⟨k6 _ _ hx4, hxb⟩
        · cases e
      refine Wk.use (A := ⟨fun z => O z ∧ z ≠ bk, fun k => if k = g then some x4 else none, v', w2⟩) (Φ := Sd m c true us) (ag := ⟨T', []⟩) q3 rfl (by rw [put_defers, k3]) q1 (q2.ry hn' hr2) hn' (Acc.refl _ _ _ _) ?_
      refine Wk.regionEnd (Wk.inBlock (Wk.reg (l := [0, 1, 2]) rfl ?_))
      refine Wk.mv (Ψ := fun a v => Sd m c true us a v ∧ a.tmps[9]? = a.tmps[4]?) (X m) bD rfl (.inl rfl) rfl (d := some 9) rfl (xtmp 4) (fun a v h => ⟨h.put (by decide) (by decide) (by decide), ?_⟩) ?_
      · obtain ⟨_, _, g, cp, h4, _⟩ := h.2.2.2 rfl
        rw [put_get, if_pos rfl, if_pos (by rw [h.1]; decide), put_get, if_neg (by decide), eval_tmp h4, h4]
      refine Wk.call (Ψ := fun a v => a.tmps.size = 15 ∧ a.tmps[1]? = some (pz (LM m).bad (.chan (some c))) ∧ a.tmps[10]? = some (.bool (nextB us)) ∧
        (nextB us = true → permOk (nextV us) = true ∧ 0 < (nextV us).length ∧ ∃ g cp, a.tmps[4]? = some (.slice (some ⟨g, 0, none⟩) (nextV us).length cp) ∧ OwI v 0 (some ⟨g, 0, none⟩) (nextV us).length cp (nextV us)))
        (X m) bD rfl rfl rfl (d := some 10) rfl (by show fnB _ = true; kernel_rfl) (tmpB_ok (by kernel_rfl)) (fun x hx => by simp at hx; subst hx; exact trivial) (fun a v τ d h => h) (fun a v τ d h => h) (fun a v h hd => ?_) ?_
      · obtain ⟨hS, h9⟩ := h
        obtain ⟨hp, hu, g, cp, h4, hO⟩ := hS.2.2.2 rfl
        rw [h4] at h9
        have he : (#[Operand.tmp 9].map a.eval) = #[.slice (some ⟨g, 0, none⟩) us.length cp] := by simp [eval_tmp h9]
        rw [he]
        refine (c_nextRank2 rfl hp hO (Nat.zero_le _)).mono fun e v' h => ?_
        obtain ⟨rfl, hB, hnx⟩ := h
        refine ⟨_, rfl, by rw [put_size, hS.1], by rw [put_get, if_neg (by decide), hS.2.1], by rw [put_get, if_pos rfl, if_pos (by rw [hS.1]; decide)], fun hb => ?_⟩
        obtain ⟨n1, n2, _⟩ := nextV_up hb
        exact ⟨n1, by rw [n2]; exact hu, g, cp, by rw [put_get, if_neg (by decide), h4, n2], by rw [n2]; exact hnx hb⟩
      refine Wk.mv (Ψ := Sd m c (nextB us) (nextV us)) (X m) bD rfl (.inr rfl) rfl (d := some 5) rfl (xtmp 10) (fun a v h => ⟨by rw [put_size, h.1], by rw [put_get, if_neg (by decide), h.2.1], ?_, fun hb => ?_⟩) ?_
      · rw [put_get, if_pos rfl, if_pos (by rw [h.1]; decide), eval_tmp h.2.2.1]
      · obtain ⟨n1, n2, g, cp, n3, n4⟩ := h.2.2.2 hb
        exact ⟨n1, n2, g, cp, by rw [put_get, if_neg (by decide), n3], n4⟩
      exact Wk.regionEnd (ih _)
  have fin : ∀ us A, nextB us = false → Wk Try.prog (LM m) false (SStop Try.prog c VI []) A (baseD 51) [botF Try.prog] [.code loop_r, .inLoop loop_r, .inBlock 0, .code last_r] (Sd m c (nextB us) (nextV us)) := fun us A hb => by
    rw [hb]
    refine head [] false _ A (fun _ => snd_end.mono fun a v h => ⟨h.1, h.2.1, h.2.2.1, by simp⟩) (fun h => by cases h)
  intro k
  induction k with
  | zero =>
    intro us hk A
    refine head _ true us A (fun h => by cases h) fun _ => body [] us _ (fun A => Wk.inLoop (fin us A ?_)) A
    cases hb : nextB us with
    | false => rfl
    | true => have := muR_next hb; omega
  | succ k ih =>
    intro us hk A
    refine head _ true us A (fun h => by cases h) fun _ => ?_
    show Wk Try.prog (LM m) false (SStop Try.prog c VI (us :: if nextB us = true then lstR k (nextV us) else [])) _ _ _ _ _
    refine body _ us _ (fun A => Wk.inLoop ?_) A
    cases hb : nextB us with
    | false => rw [if_neg (by decide)]; have := fin us A hb; rwa [hb] at this
    | true =>
      rw [if_pos rfl]
      exact ih (nextV us) (by have := muR_next hb; omega) A
theorem sender {n : Nat} (hn1 : 1 ≤ n) (hn8 : n ≤ 8) (w : World) : Co Try.prog false (SStop Try.prog c VI (lstR (muR (upI 0 n)) (upI 0 n))) noSet (born Try.prog (dcall 51 #[.int .i64 (n : Int), .chan (some c)])) w := by
  let v : World := { w with heap := #[] }
  let γ : Bl := fun _ => none
  have hW : WRel (LM 0) γ v w := ⟨fun k x e => (by cases e), fun k l x e => (by cases e), Nat.zero_le _, Nat.zero_le _⟩
  have hn : Named noSet γ := fun k x e => by cases e
  have hbody : Try.f51.body = some body_r := rfl
  refine Co.one (by rfl) (fun w1 => stepG_born Try.func51 (by rfl) hbody w1) ?_
  have hle : body_r = .seq (match body_r with | .seq r _ => r | _ => .skip) (.seq (.seq (match body_r with | .seq _ (.seq (.seq r _) _) => r | _ => .skip) (.block 0 (.loop loop_r))) last_r) := by simp only [loop_r, last_r, body_r, Try.f51, Option.getD_some]
  have key : Wk Try.prog (LM 0) false (SStop Try.prog c VI (lstR (muR (upI 0 n)) (upI 0 n))) ⟨noSet, γ, v, w⟩ (baseD 51) [botF Try.prog] [.code body_r] fun a _ => a = ⟨#[.int .i64 (n : Int), pz (LM 0).bad (.chan (some c))] ++ Array.replicate (15 - 2) undef, []⟩ := by
    rw [hle]
    have hlp := snd_loop (m := 0) (c := c) (muR (upI 0 n)) (upI 0 n) (Nat.le_refl _) ⟨noSet, γ, v, w⟩
    generalize loop_r = LL at hlp ⊢
    generalize last_r = LR at hlp ⊢
    simp only [body_r, Try.f51, Option.getD_some]
    refine Wk.seq (Wk.reg (l := [0, 1, 2]) rfl ?_)
    refine Wk.mv (Ψ := fun a v => a.tmps.size = 15 ∧ a.tmps[1]? = some (pz (LM 0).bad (.chan (some c))) ∧ a.tmps[6]? = some (.int .i64 (n : Int))) (X 0) bD rfl (.inl rfl) rfl (d := some 6) rfl (xtmp 0) (fun a v h => ?_) ?_
    · subst h
      generalize pz (LM 0).bad (.chan (some c)) = z
      have e0 : (#[Value.int .i64 (n : Int), z] ++ Array.replicate (15 - 2) undef).size = 15 := by simp
      have e1 : (#[Value.int .i64 (n : Int), z] ++ Array.replicate (15 - 2) undef)[1]? = some z := by rw [Array.getElem?_append_left (by simp)]; simp
      have e2 : (#[Value.int .i64 (n : Int), z] ++ Array.replicate (15 - 2) undef)[0]? = some (Value.int .i64 (n : Int)) := by rw [Array.getElem?_append_left (by simp)]; simp
      refine ⟨by rw [put_size]; exact e0, by rw [put_get, if_neg (by decide)]; exact e1, ?_⟩
      rw [put_get, if_pos rfl, if_pos (by show 6 < (#[Value.int .i64 (n : Int), z] ++ Array.replicate (15 - 2) undef).size; rw [e0]; decide)]
      exact congrArg some (eval_tmp e2)
    refine Wk.call (Ψ := fun a v => a.tmps.size = 15 ∧ a.tmps[1]? = some (pz (LM 0).bad (.chan (some c))) ∧ ∃ g cp, a.tmps[7]? = some (.slice (some ⟨g, 0, none⟩) (upI 0 n).length cp) ∧ OwI v 0 (some ⟨g, 0, none⟩) (upI 0 n).length cp (upI 0 n))
      (X 0) bD rfl rfl rfl (d := some 7) rfl (by show fnB _ = true; kernel_rfl) (tmpB_ok (by kernel_rfl)) (fun x hx => by simp at hx; subst hx; exact trivial) (fun a v τ d h => h) (fun a v τ d h => h) (fun a v h hd => ?_) ?_
    · have he : (#[Operand.tmp 6].map a.eval) = #[.int .i64 (n : Int)] := by simp [eval_tmp h.2.2]
      rw [he]
      refine (c_firstPerm (by omega)).mono fun e v' hh => ?_
      obtain ⟨A2, n2, c2, rfl, hO2, hE⟩ := hh
      have hn2 : (upI 0 n).length = n2 := hO2.len
      subst hn2
      obtain ⟨g2, cur, rfl, _⟩ := hO2.blkC (by rw [upI_len]; omega)
      exact ⟨_, rfl, by rw [put_size, h.1], by rw [put_get, if_neg (by decide), h.2.1], g2, c2, by rw [put_get, if_pos rfl, if_pos (by rw [h.1]; decide)], hO2.lower (Nat.zero_le _)⟩
    refine Wk.mv (Ψ := fun a v => a.tmps.size = 15 ∧ a.tmps[1]? = some (pz (LM 0).bad (.chan (some c))) ∧ ∃ g cp, a.tmps[4]? = some (.slice (some ⟨g, 0, none⟩) (upI 0 n).length cp) ∧ OwI v 0 (some ⟨g, 0, none⟩) (upI 0 n).length cp (upI 0 n))
      (X 0) bD rfl (.inr rfl) rfl (d := some 4) rfl (xtmp 7) (fun a v h => ?_) ?_
    · obtain ⟨h0, h1, g, cp, h7, hO⟩ := h
      exact ⟨by rw [put_size, h0], by rw [put_get, if_neg (by decide), h1], g, cp, by rw [put_get, if_pos rfl, if_pos (by rw [h0]; decide), eval_tmp h7], hO⟩
    refine Wk.regionEnd (Wk.seq (Wk.seq (Wk.reg (l := [0]) rfl ?_)))
    refine Wk.mv (Ψ := Sd 0 c true (upI 0 n)) (X 0) bD rfl (.inr rfl) rfl (d := some 5) rfl (x := .const (.bool true)) (fun β => .bool _) (fun a v h => ?_) ?_
    · obtain ⟨h0, h1, g, cp, h4, hO⟩ := h
      refine ⟨by rw [put_size, h0], by rw [put_get, if_neg (by decide), h1], by rw [put_get, if_pos rfl, if_pos (by rw [h0]; decide)]; rfl, fun _ => ⟨upI_ok hn8, by rw [upI_len]; omega, g, cp, by rw [put_get, if_neg (by decide), h4], hO⟩⟩
    exact Wk.regionEnd (Wk.block (Wk.loop hlp))
  refine key γ ⟨#[.int .i64 (n : Int), pz (LM 0).bad (.chan (some c))] ++ Array.replicate (15 - 2) undef, []⟩ _ v w noSet rfl rfl rfl ?_ hW hn (Acc.refl _ _ _ _)
  exact ((VsRel.one (.int _ _)).push (.poison ⟨by simp, by simp, by simp⟩)).append ⟨rfl, fun i v w h1 h2 => by
    have e1 := Array.mem_of_getElem? h1
    have e2 := Array.mem_of_getElem? h2
    rw [(Array.mem_replicate.1 e1).2, (Array.mem_replicate.1 e2).2]
    exact undef_rel⟩
end
end Go.Proofs.Ytdlgjhngndpgoaa
namespace Go.Proofs.Ytdlgjhngndpgoaa
open Go.Conc
set_option linter.unusedVariables false
set_option linter.unusedSimpArgs false
def Hx (v v' : World) : Prop := v.heap.size ≤ v'.heap.size ∧ ∀ k, k < v.heap.size → v'.heap[k]? = v.heap[k]?
theorem Hx.refl (v : World) : Hx v v := ⟨Nat.le_refl _, fun _ _ => rfl⟩
theorem Hx.trans {u v w : World} (h : Hx u v) (k : Hx v w) : Hx u w := ⟨Nat.le_trans h.1 k.1, fun i hi => (k.2 i (Nat.lt_of_lt_of_le hi h.1)).trans (h.2 i hi)⟩
theorem Hx.ext {v w : World} (h : Ext v w) : Hx v w := ⟨h.size, fun k hk => h.block k hk⟩
theorem Hx.to {v w : World} (h : Hx v w) : Ext { w with heap := v.heap } w := ⟨rfl, rfl, rfl, h.1, fun k hk => h.2 k hk⟩
section
variable {P : Program} {L : Lim} {A : An} {b : Frame} {rc : List Frame} {k k' : List Item} {Φ Ψ : Act → World → Prop} {β γ : Bl} {ag a : Act} {ops : Array Oper} {i : Nat} {rest : List Nat} {o : Oper} {Post : Value → World → Prop} {kk : Nat}
abbrev ScrS (P : Program) (Post : Value → World → Prop) (kk : Nat) : Set_ → Goroutine → World → Prop := fun O g w => AtEnd_ P Post g w ∨ AtMk_ P (Script_ P Post kk) O g w
theorem Wk.mkChan (hb : b.kind ≠ .early) (ho : ops[i]? = some o) {t : TypeId} (hop : o.op = .makeChan t (.const (.int .i64 0))) (hg : o.guard = none) {d : Option Tmp} (hd : o.dst = d)
    (hr : ∀ (a : Act) (w : World), (execOp a.eval o).run P w = .ok (.value (.chan (some w.heap.size))) { w with heap := w.heap.push (.chan 0 #[] false 0 0 false) } ∧ (execOp a.eval o).events P w #[] = #[])
    (hn : ∀ c, Wk P L true (AtGo_ P c (Script_ P Post kk)) A b rc (.inRegion ops rest :: k) (fun a v => ∃ a0, Φ a0 v ∧ a = a0.put d (pz L.bad (.chan (some c))))) : Wk P L true (ScrS P Post kk) A b rc (.inRegion ops (i :: rest) :: k) Φ := by
  subst hd
  intro γ ag a v w O hp k2 k3 k4 k5 k6 k7
  have hwa : Region.wanted o (yielded ops a.tmps) = true := by simp [Region.wanted, hg]
  refine .stop fun w1 hr1 => .inr ⟨rfl, G (b.at (a.put o.dst (.chan (some w1.heap.size))) (.inRegion ops rest :: k)) rc, ?_, fun x => O x ∧ x < w1.heap.size, fun x hx => hx.1, ?_⟩
  · rw [stepG_value ho hwa hb (hr a w1).1, listed_none (hr a w1).2]
  · have hW := k5.ry k6 hr1
    have hA := k7.rely hr1
    have hRy : Ry (fun x => O x ∧ x < w1.heap.size) w1 { w1 with heap := w1.heap.push (.chan 0 #[] false 0 0 false) } := ⟨rfl, rfl, rfl, by simp, fun x hx => by
      show (w1.heap.push _)[x]? = _
      rw [Array.getElem?_push, if_neg (by omega)]⟩
    have hn' : Named (fun x => O x ∧ x < w1.heap.size) γ := fun q x e => ⟨k6 q x e, by obtain ⟨_, _, _, h, _⟩ := hW.blk q x e; exact lt_of_heap h⟩
    have hA' : Acc A.O A.β A.v A.w (fun x => O x ∧ x < w1.heap.size) γ v w1 := ⟨hA.le, hA.new, hA.gv, hA.gw, fun x hx hl => ⟨hA.up x hx hl, Nat.lt_of_lt_of_le hl hA.gw⟩, hA.keep, hA.os, hA.output, hA.tape⟩
    exact hn w1.heap.size γ (ag.put o.dst (pz L.bad (.chan (some w1.heap.size)))) _ v _ _ ⟨ag, hp, rfl⟩ (by rw [put_defers, k2]) (by rw [put_defers, k3]) (k4.put _ (.poison ⟨by simp, by simp, by simp⟩)) (hW.ry hn' hRy) hn' (hA'.rely hRy)
theorem Wk.go {ι : Type} {V : ι → Value → Nat → World → Prop} {Next : Set_ → Goroutine → World → Prop} {c : Nat} {z : Value} {rs : List ι} {f : FuncId} {ars : Array Operand} {ats : Array TypeId} (hb : b.kind ≠ .early) (hV : VOk V) (ho : ops[i]? = some o) (hop : o.op = .go { callee := .value (.func f), args := ars, argTypes := ats }) (hg : o.guard = none) (hd : o.dst = none)
    {vals : Array Value} (hargs : ∀ γ (ag a : Act) v, Φ ag v → VsRel L γ ag.tmps a.tmps → ars.map a.eval = vals) (hchild : ∀ w, Co P false (SStop P c V rs) noSet (born P (dcall f vals)) w)
    (hn : Wk P L true (MStop P c z V Next rs) A b rc (.inRegion ops rest :: k) Φ) : Wk P L true (AtGo_ P c Next) A b rc (.inRegion ops (i :: rest) :: k) Φ := by
  intro γ ag a v w O hp k2 k3 k4 k5 k6 k7
  have hwa : Region.wanted o (yielded ops a.tmps) = true := by simp [Region.wanted, hg]
  refine .stop fun w1 hr1 => ⟨rfl, G (b.at (a.put none undef) (.inRegion ops rest :: k)) rc, _, ι, V, rs, z, hV, ?_, ?_, hchild w1⟩
  · rw [stepG_spawn (d := dcall f (ars.map a.eval)) (w' := w1) (f := .func f) (c := #[]) ho hwa hb (run_go hop w1).1 rfl, listed_none (run_go hop w1).2, hd, hargs γ ag a v hp k4]
  · exact hn γ ag _ v w1 O hp k2 (by rw [put_defers, k3]) k4 (k5.ry k6 hr1) k6 (k7.rely hr1)
section
variable {c : Nat} {z : Value} {t : TypeId} {x : Operand} {d : Option Tmp} {Next : Set_ → Goroutine → World → Prop}
theorem recv_at (hb : b.kind ≠ .early) (ho : ops[i]? = some o) (hg : o.guard = none) (hr : ∀ (a : Act) (w : World), a.eval x = .chan (some c) → (execOp a.eval o).run P w = .ok (.comm #[rcase c z] true (.recv true)) w ∧ (execOp a.eval o).events P w #[] = #[])
    (hx : a.eval x = .chan (some c)) (w : World) : RecvAt P c z (G (b.at a (.inRegion ops (i :: rest) :: k)) rc) w := by
  have hwa : Region.wanted o (yielded ops a.tmps) = true := by simp [Region.wanted, hg]
  refine ⟨rfl, ?_⟩
  rw [stepG_comm ho hwa hb (hr a w hx).1, listed_none (hr a w hx).2]
  rfl
theorem Wk.recvNil {StA : Set_ → Goroutine → World → Prop} {V : List Int → Value → Nat → World → Prop} (hb : b.kind ≠ .early) (ho : ops[i]? = some o) (hg : o.guard = none) (hd : o.dst = d) (hr : ∀ (a : Act) (w : World), a.eval x = .chan (some c) → (execOp a.eval o).run P w = .ok (.comm #[rcase c (.slice none 0 0)] true (.recv true)) w ∧ (execOp a.eval o).events P w #[] = #[]) (hxk : XOK L x)
    (hx : ∀ a v, Φ a v → a.eval x = pz L.bad (.chan (some c)))
    (hn : Wk P L true StA A b rc (.inRegion ops rest :: k) (fun a v => ∃ a0, Φ a0 v ∧ a = a0.put d (.tuple #[.slice none 0 0, .bool false]))) :
    Wk P L true (MStop P c (.slice none 0 0) V (Co P true StA) []) A b rc (.inRegion ops (i :: rest) :: k) Φ := by
  subst hd
  intro γ ag a v w O hp k2 k3 k4 k5 k6 k7
  have hxa : a.eval x = .chan (some c) := pz_inv (by have := act_eval k4 hxk; rwa [hx _ _ hp] at this)
  refine .stop fun w1 hr1 => ⟨recv_at hb ho hg hr hxa w1, fun w2 hr2 => ?_⟩
  rw [core_G, served_G, ho]
  have hr12 := hr1.trans hr2
  refine hn γ (ag.put o.dst (.tuple #[.slice none 0 0, .bool false])) _ v w2 O ⟨ag, hp, rfl⟩ (by rw [put_defers, k2]) (by rw [put_defers, k3]) (k4.put _ ?_) (k5.ry k6 hr12) k6 (k7.rely hr12)
  exact .tuple rfl fun i u y h1 h2 => by
    rcases i with _ | _ | i
    · simp at h1 h2; subst h1; subst h2; exact .slice _ _ trivial
    · simp at h1 h2; subst h1; subst h2; exact .bool _
    · simp at h1
theorem Wk.recvCons {us : List Int} {rs : List (List Int)} (hb : b.kind ≠ .early) (hLg : L.g = 0) (ho : ops[i]? = some o) (hg : o.guard = none) (hd : o.dst = d) (hr : ∀ (a : Act) (w : World), a.eval x = .chan (some c) → (execOp a.eval o).run P w = .ok (.comm #[rcase c z] true (.recv true)) w ∧ (execOp a.eval o).events P w #[] = #[]) (hxk : XOK L x)
    (hx : ∀ a v, Φ a v → a.eval x = pz L.bad (.chan (some c)))
    (hn : Wk P L true (MStop P c z VI Next rs) A b rc (.inRegion ops rest :: k) (fun a v => ∃ a0 v0 cp, Φ a0 v0 ∧ Hx v0 v ∧ OwI v v0.heap.size (some ⟨v0.heap.size, 0, none⟩) us.length cp us ∧ a = a0.put d (.tuple #[.slice (some ⟨v0.heap.size, 0, none⟩) us.length cp, .bool true]))) :
    Wk P L true (MStop P c z VI Next (us :: rs)) A b rc (.inRegion ops (i :: rest) :: k) Φ := by
  subst hd
  intro γ ag a v w O hp k2 k3 k4 k5 k6 k7
  have hxa : a.eval x = .chan (some c) := pz_inv (by have := act_eval k4 hxk; rwa [hx _ _ hp] at this)
  refine .stop fun w1 hr1 => ⟨recv_at hb ho hg hr hxa w1, fun w2 y bk hr2 hbk hV => ?_⟩
  rw [core_G, served_G, ho]
  obtain ⟨cp, rfl, hu, hO⟩ := hV
  obtain ⟨g', cur, e, _, hg2, hcn, _, hl, hat, hmk⟩ := hO.blkC hu
  cases e
  have hr12 := hr1.trans hr2
  have hW := k5.ry k6 hr12
  have hA := k7.rely hr12
  obtain ⟨cs, hc1, hc2⟩ := exists_wish (L := L) (γ := γ.put v.heap.size bk) cur cur
  let v1 : World := { v with heap := v.heap.push (.cells cs 2) }
  have hH : Hx v v1 := ⟨by simp [v1], fun q hq => by
    show (v.heap.push _)[q]? = _
    rw [Array.getElem?_push, if_neg (by omega)]⟩
  have hkk : v1.heap[v.heap.size]? = some (.cells cs 2) := by simp [v1]
  have hlt : ∀ q z, γ q = some z → q < v.heap.size := fun q z e => by obtain ⟨_, _, h, _⟩ := hW.blk q z e; exact lt_of_heap h
  have hle : Bl.Le γ (γ.put v.heap.size bk) := fun q z e => by
    have := hlt q z e
    unfold Bl.put
    rw [if_neg (by omega)]; exact e
  have hput : ∀ q z, γ.put v.heap.size bk q = some z → (q = v.heap.size ∧ z = bk) ∨ γ q = some z := fun q z e => by
    unfold Bl.put at e
    split at e
    · cases e; exact .inl ⟨by assumption, rfl⟩
    · exact .inr e
  have hkb : γ.put v.heap.size bk v.heap.size = some bk := by simp [Bl.put]
  have hnb : ∀ q, γ q ≠ some bk := fun q e => hbk (k6 q bk e)
  have hOw : OwI v1 v.heap.size (some ⟨v.heap.size, 0, none⟩) us.length cp us := hmk v1 cs v.heap.size v.heap.size (Nat.le_refl _) hkk hc1.1 fun j y hj => hc2 j _ _ (hat j y hj) (hat j y hj) (.int _ _)
  have hW1 : WRel L (γ.put v.heap.size bk) v1 w2 := by
    refine ⟨fun q z e => ?_, fun q l z e1 e2 => ?_, by rw [hLg]; exact Nat.zero_le _, by rw [hLg]; exact Nat.zero_le _⟩
    · rcases hput q z e with ⟨rfl, rfl⟩ | e
      · exact ⟨_, _, hkk, hg2, .cells _ _ hc1⟩
      · obtain ⟨o1, p1, h1, h2, h3⟩ := hW.blk q z e
        exact ⟨o1, p1, by rw [hH.2 q (hlt q z e)]; exact h1, h2, h3.mono hle⟩
    · rcases hput q z e1 with ⟨h1, h2⟩ | f1 <;> rcases hput l _ e2 with ⟨h3, h4⟩ | f2
      · rw [h1, h3]
      · exact absurd (h2 ▸ f2) (hnb l)
      · exact absurd (h4 ▸ f1) (hnb q)
      · exact hW.inj q l z f1 f2
  have hn1 : Named (fun y => O y ∨ y = bk) (γ.put v.heap.size bk) := fun q z e => (hput q z e).elim (fun h => .inr h.2) fun h => .inl (k6 q z h)
  have hA1 : Acc A.O A.β A.v A.w (fun y => O y ∨ y = bk) (γ.put v.heap.size bk) v1 w2 := ⟨hA.le.trans hle, fun q z e => (hput q z e).elim (fun h => .inr ⟨by
    rcases Nat.lt_or_ge z A.w.heap.size with hl | hl
    · exact .inl fun hx => hbk (by rw [← h.2]; exact hA.up z hx hl)
    · exact .inr hl, by rw [h.1]; exact hA.gv⟩) (hA.new q z), Nat.le_trans hA.gv hH.1, hA.gw, fun q hq hl => .inl (hA.up q hq hl), hA.keep, hA.os, hA.output, hA.tape⟩
  refine hn _ (ag.put o.dst (.tuple #[.slice (some ⟨v.heap.size, 0, none⟩) us.length cp, .bool true])) _ v1 w2 _ ⟨ag, v, cp, hp, hH, hOw, rfl⟩ (by rw [put_defers, k2]) (by rw [put_defers, k3]) ((k4.mono hle).put _ ?_) hW1 hn1 hA1
  exact .tuple rfl fun i u y h1 h2 => by
    rcases i with _ | _ | i
    · simp at h1 h2; subst h1; subst h2; exact .slice _ _ ⟨hkb, rfl, rfl, by rw [hLg]; exact Nat.zero_le _, by rw [hLg]; exact Nat.zero_le _⟩
    · simp at h1 h2; subst h1; subst h2; exact .bool _
    · simp at h1
end
end
end Go.Proofs.Ytdlgjhngndpgoaa
namespace Go.Proofs.Ytdlgjhngndpgoaa
mutual
theorem sub_ex {ar : List Int} : ∀ (u : Tm), u.Ok ar → ∀ at_, at_ < u.flat.length → ∃ (v : Tm) (rest : List Int), v.Ok ar ∧ u.flat.drop at_ = v.flat ++ rest
  | .node x us, hu, 0, _ => ⟨.node x us, [], hu, by simp⟩
  | .node x us, hu, n + 1, h => by
    rw [flat_node, List.length_cons] at h
    obtain ⟨v, rest, h1, h2⟩ := subL_ex us (Ok_node.1 hu).2 n (by omega)
    exact ⟨v, rest, h1, by rw [flat_node, List.drop_succ_cons]; exact h2⟩
theorem subL_ex {ar : List Int} : ∀ (us : List Tm), OkL ar us → ∀ at_, at_ < (flatL us).length → ∃ (v : Tm) (rest : List Int), v.Ok ar ∧ (flatL us).drop at_ = v.flat ++ rest
  | [], _, at_, h => by rw [show flatL [] = [] by rfl] at h; simp at h
  | a :: us, hu, at_, h => by
    obtain ⟨k1, k2⟩ := OkL_cons.1 hu
    rw [flatL_cons, List.length_append] at h
    rw [flatL_cons]
    by_cases h1 : at_ < a.flat.length
    · obtain ⟨v, rest, h2, h3⟩ := sub_ex a k1 at_ h1
      exact ⟨v, rest ++ flatL us, h2, by rw [List.drop_append_of_le_length (by omega), h3, List.append_assoc]⟩
    · obtain ⟨v, rest, h2, h3⟩ := subL_ex us k2 (at_ - a.flat.length) (by omega)
      exact ⟨v, rest, h2, by rw [List.drop_append, List.drop_of_length_le (by omega), List.nil_append]; exact h3⟩
end
noncomputable def subT (ar t : List Int) (p : Nat) : Tm := @Classical.epsilon Tm ⟨.node 0 []⟩ fun v => v.Ok ar ∧ ∃ rest, t.drop p = v.flat ++ rest
theorem subT_ok {ar t : List Int} {p : Nat} (h : TermP ar t) (hp : p < t.length) : (subT ar t p).Ok ar ∧ ∃ rest, t.drop p = (subT ar t p).flat ++ rest := by
  obtain ⟨k1, k2⟩ := tmOf_ok h
  obtain ⟨v, rest, h1, h2⟩ := sub_ex (tmOf ar t) k1 p (by rw [k2]; exact hp)
  rw [k2] at h2
  exact Classical.epsilon_spec (p := fun v : Tm => v.Ok ar ∧ ∃ rest, t.drop p = v.flat ++ rest) ⟨v, h1, rest, h2⟩
def Has (ar t u : List Int) : Prop := ∃ p, 1 ≤ p ∧ p < t.length ∧ (subT ar t p).flat = u
noncomputable def has (ar t u : List Int) : Bool := @decide (Has ar t u) (Classical.propDecidable _)
end Go.Proofs.Ytdlgjhngndpgoaa
namespace Go.Proofs.Ytdlgjhngndpgoaa
open Classical in
/-- Of arguments the first unlike ones. -/
noncomputable def lexG (W : Tm → Tm → Nat) : List Tm → List Tm → Bool
  | a :: ts, b :: ss => if a = b then lexG W ts ss else decide (0 < W a b)
  | _, _ => false
open Classical in
noncomputable def rmv (b : Tm) : List Tm → List Tm
  | [] => []
  | a :: as1 => if a = b then as1 else a :: rmv b as1
open Classical in
/-- What stays of both bags where what is in both is taken out. -/
noncomputable def bagTwo : List Tm → List Tm → List Tm × List Tm
  | left, [] => (left, [])
  | left, b :: ss => if b ∈ left then bagTwo (rmv b left) ss else ((bagTwo left ss).1, b :: (bagTwo left ss).2)
def anyG (W : Tm → Tm → Nat) (left : List Tm) (b : Tm) : Bool := left.any fun a => decide (0 < W a b)
def allG (W : Tm → Tm → Nat) (left more : List Tm) : Bool := more.all fun b => anyG W left b
noncomputable def bagG (W : Tm → Tm → Nat) (ts ss : List Tm) : Bool := allG W (bagTwo ts ss).1 (bagTwo ts ss).2 && decide (0 < (bagTwo ts ss).1.length)
def overG (W : Tm → Tm → Nat) (t : Tm) (ss : List Tm) : Bool := ss.all fun b => decide (0 < W t b)
open Classical in
noncomputable def argG (W : Tm → Tm → Nat) (ts : List Tm) (s : Tm) : Bool := ts.any fun a => decide (a = s) || decide (0 < W a s)
def Tm.hd : Tm → Int
  | .node x _ => x
def Tm.as : Tm → List Tm
  | .node _ as1 => as1
noncomputable def lpoB (rk : Int → Int) (lex : Bool) (W : Tm → Tm → Nat) (t s : Tm) : Nat :=
  if t.hd < 0 then 0 else if argG W t.as s = true then 1 else if s.hd < 0 then 0
  else if t.hd = s.hd then (if (if lex = true then overG W t s.as && lexG W t.as s.as else bagG W t.as s.as) = true then 3 else 0)
  else if rk s.hd < rk t.hd ∧ overG W t s.as = true then 2 else 0
noncomputable def lpoN (rk : Int → Int) (lex : Bool) : Nat → Tm → Tm → Nat
  | 0, _, _ => 0
  | n + 1, t, s => lpoB rk lex (lpoN rk lex n) t s
def Tm.sz (t : Tm) : Nat := t.flat.length
theorem sz_arg {t a : Tm} (h : a ∈ t.as) : a.sz < t.sz := by
  cases t with
  | node x as1 =>
    unfold Tm.sz
    rw [flat_node, List.length_cons]
    have := mem_flatL_len (show a ∈ as1 from h)
    omega
theorem any_congr {α : Type} {l : List α} {f g : α → Bool} (h : ∀ a ∈ l, f a = g a) : l.any f = l.any g := by
  induction l with
  | nil => rfl
  | cons a l ih => rw [List.any_cons, List.any_cons, h a (List.mem_cons_self), ih fun b hb => h b (List.mem_cons_of_mem _ hb)]
theorem all_congr {α : Type} {l : List α} {f g : α → Bool} (h : ∀ a ∈ l, f a = g a) : l.all f = l.all g := by
  induction l with
  | nil => rfl
  | cons a l ih => rw [List.all_cons, List.all_cons, h a (List.mem_cons_self), ih fun b hb => h b (List.mem_cons_of_mem _ hb)]
theorem lexG_congr {W W' : Tm → Tm → Nat} : ∀ {ts ss : List Tm}, (∀ a ∈ ts, ∀ b ∈ ss, W a b = W' a b) → lexG W ts ss = lexG W' ts ss
  | [], _, _ => by simp [lexG]
  | _ :: _, [], _ => by simp [lexG]
  | a :: ts, b :: ss, h => by
    unfold lexG
    rw [h a List.mem_cons_self b List.mem_cons_self, lexG_congr fun x hx y hy => h x (List.mem_cons_of_mem _ hx) y (List.mem_cons_of_mem _ hy)]
theorem rmv_sub {b a : Tm} : ∀ {l : List Tm}, a ∈ rmv b l → a ∈ l
  | [], h => by simp [rmv] at h
  | c :: l, h => by
    unfold rmv at h
    split at h
    · exact List.mem_cons_of_mem _ h
    · rcases List.mem_cons.1 h with rfl | h
      · exact List.mem_cons_self
      · exact List.mem_cons_of_mem _ (rmv_sub h)
theorem bagTwo_sub : ∀ {ss left : List Tm}, (∀ a ∈ (bagTwo left ss).1, a ∈ left) ∧ ∀ b ∈ (bagTwo left ss).2, b ∈ ss
  | [], left => by unfold bagTwo; exact ⟨fun a h => h, fun b h => h⟩
  | b :: ss, left => by
    unfold bagTwo
    split
    · obtain ⟨h1, h2⟩ := bagTwo_sub (ss := ss) (left := rmv b left)
      exact ⟨fun a h => rmv_sub (h1 a h), fun c h => List.mem_cons_of_mem _ (h2 c h)⟩
    · obtain ⟨h1, h2⟩ := bagTwo_sub (ss := ss) (left := left)
      exact ⟨h1, fun c h => by
        rcases List.mem_cons.1 h with rfl | h
        · exact List.mem_cons_self
        · exact List.mem_cons_of_mem _ (h2 c h)⟩
theorem bagG_congr {W W' : Tm → Tm → Nat} {ts ss : List Tm} (h : ∀ a ∈ ts, ∀ b ∈ ss, W a b = W' a b) : bagG W ts ss = bagG W' ts ss := by
  obtain ⟨h1, h2⟩ := bagTwo_sub (ss := ss) (left := ts)
  unfold bagG allG
  have e : ((bagTwo ts ss).2.all fun b => anyG W (bagTwo ts ss).1 b) = (bagTwo ts ss).2.all fun b => anyG W' (bagTwo ts ss).1 b :=
    all_congr fun b hb => any_congr fun a ha => by rw [h a (h1 a ha) b (h2 b hb)]
  rw [e]
theorem overG_congr {W W' : Tm → Tm → Nat} {t : Tm} {ss : List Tm} (h : ∀ b ∈ ss, W t b = W' t b) : overG W t ss = overG W' t ss :=
  all_congr fun b hb => by rw [h b hb]
theorem argG_congr {W W' : Tm → Tm → Nat} {s : Tm} {ts : List Tm} (h : ∀ a ∈ ts, W a s = W' a s) : argG W ts s = argG W' ts s :=
  any_congr fun a ha => by rw [h a ha]
theorem lpoB_congr {rk : Int → Int} {lex : Bool} {W W' : Tm → Tm → Nat} {t s : Tm} (h : ∀ a b, a.sz + b.sz < t.sz + s.sz → W a b = W' a b) : lpoB rk lex W t s = lpoB rk lex W' t s := by
  have h1 : argG W t.as s = argG W' t.as s := argG_congr fun a ha => h a s (by have := sz_arg ha; omega)
  have h2 : overG W t s.as = overG W' t s.as := overG_congr fun b hb => h t b (by have := sz_arg hb; omega)
  have h3 : lexG W t.as s.as = lexG W' t.as s.as := lexG_congr fun a ha b hb => h a b (by have := sz_arg ha; have := sz_arg hb; omega)
  have h4 : bagG W t.as s.as = bagG W' t.as s.as := bagG_congr fun a ha b hb => h a b (by have := sz_arg ha; have := sz_arg hb; omega)
  unfold lpoB
  rw [h1, h2, h3, h4]
theorem lpoN_eq {rk : Int → Int} {lex : Bool} : ∀ {n m : Nat} {t s : Tm}, t.sz + s.sz ≤ n → t.sz + s.sz ≤ m → lpoN rk lex n t s = lpoN rk lex m t s
  | 0, _, t, s, h, _ => by have := flat_pos t; unfold Tm.sz at h; omega
  | _ + 1, 0, t, s, _, h => by have := flat_pos t; unfold Tm.sz at h; omega
  | n + 1, m + 1, t, s, h1, h2 => by
    show lpoB rk lex (lpoN rk lex n) t s = lpoB rk lex (lpoN rk lex m) t s
    exact lpoB_congr fun a b hab => lpoN_eq (by omega) (by omega)
noncomputable def lpoW (rk : Int → Int) (lex : Bool) (t s : Tm) : Nat := lpoN rk lex (t.sz + s.sz) t s
theorem lpoW_eq (rk : Int → Int) (lex : Bool) (t s : Tm) : lpoW rk lex t s = lpoB rk lex (lpoW rk lex) t s := by
  have h : lpoW rk lex t s = lpoN rk lex (t.sz + s.sz + 1) t s := lpoN_eq (Nat.le_refl _) (by omega)
  rw [h]
  show lpoB rk lex (lpoN rk lex (t.sz + s.sz)) t s = _
  exact lpoB_congr fun a b hab => lpoN_eq (by omega) (Nat.le_refl _)
theorem lpoB_le {rk : Int → Int} {lex : Bool} {W : Tm → Tm → Nat} {t s : Tm} : lpoB rk lex W t s ≤ 3 := by
  unfold lpoB
  repeat' split
  all_goals omega
theorem lpoW_le (rk : Int → Int) (lex : Bool) (t s : Tm) : lpoW rk lex t s ≤ 3 := by rw [lpoW_eq]; exact lpoB_le
theorem subT_eq {ar t rest : List Int} {p : Nat} {u : Tm} (h : TermP ar t) (hu : u.Ok ar) (hd : t.drop p = u.flat ++ rest) : subT ar t p = u := by
  have hp : p < t.length := by
    have h1 := congrArg List.length hd
    have h2 := flat_pos u
    rw [List.length_drop, List.length_append] at h1
    omega
  obtain ⟨h1, rest', h2⟩ := subT_ok h hp
  exact (flat_inj _ _ h1 hu _ _ (by rw [← h2, hd])).1
end Go.Proofs.Ytdlgjhngndpgoaa
namespace Go.Proofs.Ytdlgjhngndpgoaa
def rkF (rk : List Int) (x : Int) : Int := rk.getD x.toNat 0
noncomputable def lpoA (ar rk : List Int) (lex : Bool) (s t : List Int) : Nat := lpoW (rkF rk) lex (subT ar t 0) (subT ar s 0)
noncomputable def lpoArgs (ar rk s t : List Int) : Bool := (termOk ar s && termOk ar t) && rankOk ar rk
theorem lpoArgs_iff {ar rk s t : List Int} : lpoArgs ar rk s t = true ↔ (TermP ar s ∧ TermP ar t) ∧ SigP ar ∧ rk.length = ar.length ∧ rankOk ar rk = true := by
  unfold lpoArgs
  rw [Bool.and_eq_true, Bool.and_eq_true, termOk_iff, termOk_iff]
  constructor
  · rintro ⟨h1, h2⟩
    exact ⟨h1, h1.1.1, (rankOk_iff.1 h2).2.1, h2⟩
  · rintro ⟨h1, _, _, h2⟩
    exact ⟨h1, h2⟩
end Go.Proofs.Ytdlgjhngndpgoaa
