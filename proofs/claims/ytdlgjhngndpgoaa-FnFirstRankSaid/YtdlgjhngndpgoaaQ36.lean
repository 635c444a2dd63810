/- Several texts in one: FrC4, FrC5, FrC6, FrC7, FrC8, CoV, CoX, OpenBy. -/
import Derived.Test.YtdlgjhngndpgoaaQ35
import Derived.Test.YtdlgjhngndpgoaaQ09
import Derived.Test.YtdlgjhngndpgoaaQ17
import Derived.Test.YtdlgjhngndpgoaaQ10
import Derived.Test.YtdlgjhngndpgoaaQ32
import Derived.Deep.Slices
import Derived.Deep.Fields
import Derived.ChangeSame
import Derived.Test.YtdlgjhngndpgoaaQ12
namespace Go.Proofs.Ytdlgjhngndpgoaa
open Go.Conc Go.RowKit
set_option linter.unusedVariables false
set_option linter.unusedSimpArgs false
set_option maxRecDepth 100000
section
variable {v0 w : World} {s : Sy} {o1 o2 : Option (List Int)} {k : Nat} {b1 b2 : Bool} {p : List Int} {a : Act}
set_option maxHeartbeats 4000000 in
theorem wr14 (h : Jr v0 s o1 o2 k b1 b2 p a w) (hd : a.defers = []) : pr14.wp Try.prog (fun e a' v' => (e = .normal ∧ Jr v0 s o1 o2 k b1 (b2 || decide (o2 = some p)) p a' v') ∨ (e = .ret ∧ False)) a w := by
  cases b2 with
  | true =>
    rw [Bool.true_or]
    obtain ⟨⟨⟨hsz, hH⟩, ⟨q, SA, sn, sc, SB, sm, sd, e4, s0, s1, hSA, hSB⟩, ⟨RA, rn, rc, e5, e6, hRA⟩, ⟨QA, qn, qc, e7, e8, hQA⟩, ⟨PA, pn, pc, e9, hPA⟩, e10, e11⟩, e12⟩ := h
    obtain ⟨i1, hi1⟩ : ∃ i, i = o1.isSome := ⟨_, rfl⟩
    obtain ⟨i2, hi2⟩ : ∃ i, i = o2.isSome := ⟨_, rfl⟩
    rw [← hi1] at e6
    rw [← hi2] at e8
    have HI1 := Lib.hid hi1
    have HI2 := Lib.hid hi2
    clear hi1 hi2
    obtain ⟨tm, df⟩ := a
    simp only at hd hsz e4 e5 e6 e7 e8 e9 e10 e11 e12
    subst hd
    have hT := lit107 hsz
    rw [gv_of e4, gv_of e5, gv_of e6, gv_of e7, gv_of e8, gv_of e9, gv_of e10, gv_of e11, gv_of e12] at hT
    rw [hT]
    clear hT e4 e5 e6 e7 e8 e9 e10 e11 e12
    have HH := Lib.hid hH
    have HSA := Lib.hid hSA
    have HSB := Lib.hid hSB
    have HRA := Lib.hid hRA
    have HQA := Lib.hid hQA
    have HPA := Lib.hid hPA
    clear hH hSA hSB hRA hQA hPA hsz
    simp only [pr14, prC, prB, prL, bodyR, Try.f3, Option.getD_some]
    go_wp2_with fail
    exact ⟨⟨⟨rfl, HH.out⟩, ⟨q, SA, sn, sc, SB, sm, sd, rfl, s0, s1, HSA.out, HSB.out⟩, ⟨RA, rn, rc, rfl, by rw [← HI1.out]; rfl, HRA.out⟩, ⟨QA, qn, qc, rfl, by rw [← HI2.out]; rfl, HQA.out⟩, ⟨PA, pn, pc, rfl, HPA.out⟩, rfl, rfl⟩, rfl⟩
  | false =>
    rw [Bool.false_or]
    cases o2 with
    | none =>
      obtain ⟨⟨⟨hsz, hH⟩, ⟨q, SA, sn, sc, SB, sm, sd, e4, s0, s1, hSA, hSB⟩, ⟨RA, rn, rc, e5, e6, hRA⟩, ⟨QA, qn, qc, e7, e8, hQA⟩, ⟨PA, pn, pc, e9, hPA⟩, e10, e11⟩, e12⟩ := h
      obtain ⟨i1, hi1⟩ : ∃ i, i = o1.isSome := ⟨_, rfl⟩
      rw [← hi1] at e6
      have HI1 := Lib.hid hi1
      clear hi1
      obtain ⟨tm, df⟩ := a
      simp only at hd hsz e4 e5 e6 e7 e8 e9 e10 e11 e12
      subst hd
      have hT := lit107 hsz
      rw [gv_of e4, gv_of e5, gv_of e6, gv_of e7, gv_of e8, gv_of e9, gv_of e10, gv_of e11, gv_of e12] at hT
      rw [hT]
      clear hT e4 e5 e6 e7 e8 e9 e10 e11 e12
      have HH := Lib.hid hH
      have HSA := Lib.hid hSA
      have HSB := Lib.hid hSB
      have HRA := Lib.hid hRA
      have HQA := Lib.hid hQA
      have HPA := Lib.hid hPA
      clear hH hSA hSB hRA hQA hPA hsz
      simp only [pr14, prC, prB, prL, bodyR, Try.f3, Option.getD_some]
      go_wp2_with fail
      exact ⟨⟨⟨rfl, HH.out⟩, ⟨q, SA, sn, sc, SB, sm, sd, rfl, s0, s1, HSA.out, HSB.out⟩, ⟨RA, rn, rc, rfl, by rw [← HI1.out]; rfl, HRA.out⟩, ⟨QA, qn, qc, rfl, rfl, HQA.out⟩, ⟨PA, pn, pc, rfl, HPA.out⟩, rfl, rfl⟩, rfl⟩
    | some rk =>
      obtain ⟨eq, heq⟩ : ∃ b, (p == rk) = b := ⟨_, rfl⟩
      have HEQ := Lib.hid heq
      have hdq : decide (some rk = some p) = eq := by
        rw [← heq]
        by_cases h : p = rk
        · subst h; simp
        · rw [decide_eq_false (by intro e; cases e; exact h rfl)]; simp [h]
      rw [hdq]
      clear heq hdq
      obtain ⟨⟨⟨hsz, hH⟩, ⟨q, SA, sn, sc, SB, sm, sd, e4, s0, s1, hSA, hSB⟩, ⟨RA, rn, rc, e5, e6, hRA⟩, ⟨QA, qn, qc, e7, e8, hQA⟩, ⟨PA, pn, pc, e9, hPA⟩, e10, e11⟩, e12⟩ := h
      obtain ⟨i1, hi1⟩ : ∃ i, i = o1.isSome := ⟨_, rfl⟩
      rw [← hi1] at e6
      have HI1 := Lib.hid hi1
      clear hi1
      obtain ⟨tm, df⟩ := a
      simp only at hd hsz e4 e5 e6 e7 e8 e9 e10 e11 e12
      subst hd
      have hT := lit107 hsz
      rw [gv_of e4, gv_of e5, gv_of e6, gv_of e7, gv_of e8, gv_of e9, gv_of e10, gv_of e11, gv_of e12] at hT
      rw [hT]
      clear hT e4 e5 e6 e7 e8 e9 e10 e11 e12
      have HH := Lib.hid hH
      have HSA := Lib.hid hSA
      have HSB := Lib.hid hSB
      have HRA := Lib.hid hRA
      have HQA := Lib.hid hQA
      have HPA := Lib.hid hPA
      clear hH hSA hSB hRA hQA hPA hsz
      simp only [pr14, prC, prB, prL, bodyR, Try.f3, Option.getD_some]
      go_wp2_with fail
      (with_reducible refine (c_likeInts HEQ.out (RdI.mk HPA.out) (RdI.mk HQA.out)).mono ?_)
      rintro e w1 ⟨rfl, hE1⟩
      go_wp2_with fail
      exact ⟨⟨⟨rfl, HH.out.trans (Hx.ext hE1)⟩, ⟨q, SA, sn, sc, SB, sm, sd, rfl, Ext.keep hE1 s0, Ext.keep hE1 s1, HSA.out.ext hE1, HSB.out.ext hE1⟩, ⟨RA, rn, rc, rfl, by rw [← HI1.out]; rfl, HRA.out.ext hE1⟩, ⟨QA, qn, qc, rfl, rfl, HQA.out.ext hE1⟩, ⟨PA, pn, pc, rfl, HPA.out.ext hE1⟩, rfl, rfl⟩, rfl⟩
end
end Go.Proofs.Ytdlgjhngndpgoaa
namespace Go.Proofs.Ytdlgjhngndpgoaa
open Go.Conc Go.RowKit
set_option linter.unusedVariables false
set_option linter.unusedSimpArgs false
set_option maxRecDepth 100000
section
variable {v0 w : World} {s : Sy} {o1 o2 : Option (List Int)} {k : Nat} {b1 b2 : Bool} {p : List Int} {a : Act}
set_option maxHeartbeats 4000000 in
theorem wr15 (f1 : b1 = false → orientsV true s p = false) (f2 : b2 = false → orientsV false s p = false) (h : Jr v0 s o1 o2 k b1 b2 p a w) (hd : a.defers = []) : pr15.wp Try.prog (fun e a' v' => (e = .normal ∧ Jr v0 s o1 o2 k b1 b2 p a' v' ∧ a'.tmps[69]? = some (.bool false)) ∨ (e = .ret ∧ False)) a w := by
  have HF1 := Lib.hid f1
  have HF2 := Lib.hid f2
  clear f1 f2
  cases b1 with
  | true =>
    cases b2 with
    | true =>
      obtain ⟨⟨⟨hsz, hH⟩, ⟨q, SA, sn, sc, SB, sm, sd, e4, s0, s1, hSA, hSB⟩, ⟨RA, rn, rc, e5, e6, hRA⟩, ⟨QA, qn, qc, e7, e8, hQA⟩, ⟨PA, pn, pc, e9, hPA⟩, e10, e11⟩, e12⟩ := h
      obtain ⟨i1, hi1⟩ : ∃ i, i = o1.isSome := ⟨_, rfl⟩
      obtain ⟨i2, hi2⟩ : ∃ i, i = o2.isSome := ⟨_, rfl⟩
      rw [← hi1] at e6
      rw [← hi2] at e8
      have HI1 := Lib.hid hi1
      have HI2 := Lib.hid hi2
      clear hi1 hi2
      obtain ⟨tm, df⟩ := a
      simp only at hd hsz e4 e5 e6 e7 e8 e9 e10 e11 e12
      subst hd
      have hT := lit107 hsz
      rw [gv_of e4, gv_of e5, gv_of e6, gv_of e7, gv_of e8, gv_of e9, gv_of e10, gv_of e11, gv_of e12] at hT
      rw [hT]
      clear hT e4 e5 e6 e7 e8 e9 e10 e11 e12
      have HH := Lib.hid hH
      have HSA := Lib.hid hSA
      have HSB := Lib.hid hSB
      have HRA := Lib.hid hRA
      have HQA := Lib.hid hQA
      have HPA := Lib.hid hPA
      clear hH hSA hSB hRA hQA hPA hsz
      simp only [pr15, prC, prB, prL, bodyR, Try.f3, Option.getD_some]
      go_wp2_with fail
      exact ⟨⟨⟨rfl, HH.out⟩, ⟨q, SA, sn, sc, SB, sm, sd, rfl, s0, s1, HSA.out, HSB.out⟩, ⟨RA, rn, rc, rfl, by rw [← HI1.out]; rfl, HRA.out⟩, ⟨QA, qn, qc, rfl, by rw [← HI2.out]; rfl, HQA.out⟩, ⟨PA, pn, pc, rfl, HPA.out⟩, rfl, rfl⟩, rfl⟩
    | false =>
      obtain ⟨⟨⟨hsz, hH⟩, ⟨q, SA, sn, sc, SB, sm, sd, e4, s0, s1, hSA, hSB⟩, ⟨RA, rn, rc, e5, e6, hRA⟩, ⟨QA, qn, qc, e7, e8, hQA⟩, ⟨PA, pn, pc, e9, hPA⟩, e10, e11⟩, e12⟩ := h
      obtain ⟨i1, hi1⟩ : ∃ i, i = o1.isSome := ⟨_, rfl⟩
      obtain ⟨i2, hi2⟩ : ∃ i, i = o2.isSome := ⟨_, rfl⟩
      rw [← hi1] at e6
      rw [← hi2] at e8
      have HI1 := Lib.hid hi1
      have HI2 := Lib.hid hi2
      clear hi1 hi2
      obtain ⟨tm, df⟩ := a
      simp only at hd hsz e4 e5 e6 e7 e8 e9 e10 e11 e12
      subst hd
      have hT := lit107 hsz
      rw [gv_of e4, gv_of e5, gv_of e6, gv_of e7, gv_of e8, gv_of e9, gv_of e10, gv_of e11, gv_of e12] at hT
      rw [hT]
      clear hT e4 e5 e6 e7 e8 e9 e10 e11 e12
      have HH := Lib.hid hH
      have HSA := Lib.hid hSA
      have HSB := Lib.hid hSB
      have HRA := Lib.hid hRA
      have HQA := Lib.hid hQA
      have HPA := Lib.hid hPA
      clear hH hSA hSB hRA hQA hPA hsz
      have HG2 := Lib.hid (HF2.out rfl)
      simp only [pr15, prC, prB, prL, bodyR, Try.f3, Option.getD_some]
      go_wp2_with fail
      (with_reducible refine (c_sOBB HG2.out (RdSyK.mk HSA.out HSB.out) (RdI.mk HPA.out)).mono ?_)
      rintro e w2 ⟨rfl, hE2⟩
      go_wp2_with fail
      exact ⟨⟨⟨rfl, HH.out.trans (Hx.ext hE2)⟩, ⟨q, SA, sn, sc, SB, sm, sd, rfl, Ext.keep hE2 s0, Ext.keep hE2 s1, HSA.out.ext hE2, HSB.out.ext hE2⟩, ⟨RA, rn, rc, rfl, by rw [← HI1.out]; rfl, HRA.out.ext hE2⟩, ⟨QA, qn, qc, rfl, by rw [← HI2.out]; rfl, HQA.out.ext hE2⟩, ⟨PA, pn, pc, rfl, HPA.out.ext hE2⟩, rfl, rfl⟩, rfl⟩
  | false =>
    cases b2 with
    | true =>
      obtain ⟨⟨⟨hsz, hH⟩, ⟨q, SA, sn, sc, SB, sm, sd, e4, s0, s1, hSA, hSB⟩, ⟨RA, rn, rc, e5, e6, hRA⟩, ⟨QA, qn, qc, e7, e8, hQA⟩, ⟨PA, pn, pc, e9, hPA⟩, e10, e11⟩, e12⟩ := h
      obtain ⟨i1, hi1⟩ : ∃ i, i = o1.isSome := ⟨_, rfl⟩
      obtain ⟨i2, hi2⟩ : ∃ i, i = o2.isSome := ⟨_, rfl⟩
      rw [← hi1] at e6
      rw [← hi2] at e8
      have HI1 := Lib.hid hi1
      have HI2 := Lib.hid hi2
      clear hi1 hi2
      obtain ⟨tm, df⟩ := a
      simp only at hd hsz e4 e5 e6 e7 e8 e9 e10 e11 e12
      subst hd
      have hT := lit107 hsz
      rw [gv_of e4, gv_of e5, gv_of e6, gv_of e7, gv_of e8, gv_of e9, gv_of e10, gv_of e11, gv_of e12] at hT
      rw [hT]
      clear hT e4 e5 e6 e7 e8 e9 e10 e11 e12
      have HH := Lib.hid hH
      have HSA := Lib.hid hSA
      have HSB := Lib.hid hSB
      have HRA := Lib.hid hRA
      have HQA := Lib.hid hQA
      have HPA := Lib.hid hPA
      clear hH hSA hSB hRA hQA hPA hsz
      have HG1 := Lib.hid (HF1.out rfl)
      simp only [pr15, prC, prB, prL, bodyR, Try.f3, Option.getD_some]
      go_wp2_with fail
      (with_reducible refine (c_sOAB HG1.out (RdSyK.mk HSA.out HSB.out) (RdI.mk HPA.out)).mono ?_)
      rintro e w1 ⟨rfl, hE1⟩
      have s0b := Ext.keep hE1 s0
      have s1b := Ext.keep hE1 s1
      go_wp2_with fail
      exact ⟨⟨⟨rfl, HH.out.trans (Hx.ext hE1)⟩, ⟨q, SA, sn, sc, SB, sm, sd, rfl, Ext.keep hE1 s0, Ext.keep hE1 s1, HSA.out.ext hE1, HSB.out.ext hE1⟩, ⟨RA, rn, rc, rfl, by rw [← HI1.out]; rfl, HRA.out.ext hE1⟩, ⟨QA, qn, qc, rfl, by rw [← HI2.out]; rfl, HQA.out.ext hE1⟩, ⟨PA, pn, pc, rfl, HPA.out.ext hE1⟩, rfl, rfl⟩, rfl⟩
    | false =>
      obtain ⟨⟨⟨hsz, hH⟩, ⟨q, SA, sn, sc, SB, sm, sd, e4, s0, s1, hSA, hSB⟩, ⟨RA, rn, rc, e5, e6, hRA⟩, ⟨QA, qn, qc, e7, e8, hQA⟩, ⟨PA, pn, pc, e9, hPA⟩, e10, e11⟩, e12⟩ := h
      obtain ⟨i1, hi1⟩ : ∃ i, i = o1.isSome := ⟨_, rfl⟩
      obtain ⟨i2, hi2⟩ : ∃ i, i = o2.isSome := ⟨_, rfl⟩
      rw [← hi1] at e6
      rw [← hi2] at e8
      have HI1 := Lib.hid hi1
      have HI2 := Lib.hid hi2
      clear hi1 hi2
      obtain ⟨tm, df⟩ := a
      simp only at hd hsz e4 e5 e6 e7 e8 e9 e10 e11 e12
      subst hd
      have hT := lit107 hsz
      rw [gv_of e4, gv_of e5, gv_of e6, gv_of e7, gv_of e8, gv_of e9, gv_of e10, gv_of e11, gv_of e12] at hT
      rw [hT]
      clear hT e4 e5 e6 e7 e8 e9 e10 e11 e12
      have HH := Lib.hid hH
      have HSA := Lib.hid hSA
      have HSB := Lib.hid hSB
      have HRA := Lib.hid hRA
      have HQA := Lib.hid hQA
      have HPA := Lib.hid hPA
      clear hH hSA hSB hRA hQA hPA hsz
      have HG1 := Lib.hid (HF1.out rfl)
      have HG2 := Lib.hid (HF2.out rfl)
      simp only [pr15, prC, prB, prL, bodyR, Try.f3, Option.getD_some]
      go_wp2_with fail
      (with_reducible refine (c_sOAB HG1.out (RdSyK.mk HSA.out HSB.out) (RdI.mk HPA.out)).mono ?_)
      rintro e w1 ⟨rfl, hE1⟩
      have s0b := Ext.keep hE1 s0
      have s1b := Ext.keep hE1 s1
      go_wp2_with fail
      (with_reducible refine (c_sOBB HG2.out (RdSyK.mk (HSA.out.ext hE1) (HSB.out.ext hE1)) (RdI.mk (HPA.out.ext hE1))).mono ?_)
      rintro e w2 ⟨rfl, hE2⟩
      have hE2 := Ext.trans hE1 hE2
      go_wp2_with fail
      exact ⟨⟨⟨rfl, HH.out.trans (Hx.ext hE2)⟩, ⟨q, SA, sn, sc, SB, sm, sd, rfl, Ext.keep hE2 s0, Ext.keep hE2 s1, HSA.out.ext hE2, HSB.out.ext hE2⟩, ⟨RA, rn, rc, rfl, by rw [← HI1.out]; rfl, HRA.out.ext hE2⟩, ⟨QA, qn, qc, rfl, by rw [← HI2.out]; rfl, HQA.out.ext hE2⟩, ⟨PA, pn, pc, rfl, HPA.out.ext hE2⟩, rfl, rfl⟩, rfl⟩
end
end Go.Proofs.Ytdlgjhngndpgoaa
namespace Go.Proofs.Ytdlgjhngndpgoaa
open Go.Conc Go.RowKit
set_option linter.unusedVariables false
set_option linter.unusedSimpArgs false
set_option maxRecDepth 100000
section
variable {v0 w : World} {s : Sy} {o1 o2 : Option (List Int)} {k : Nat} {b1 b2 : Bool} {p : List Int} {a : Act}
set_option maxHeartbeats 4000000 in
theorem wr17 {q : List Int} {m : Bool} (hq : q = nextV p) (hm : m = nextB p) (h : Jr v0 s o1 o2 k b1 b2 p a w) (hd : a.defers = []) : pr17.wp Try.prog (fun e a' v' => (e = .normal ∧ Jn v0 s o1 o2 k b1 b2 p q m a' v') ∨ (e = .ret ∧ False)) a w := by
  obtain ⟨⟨⟨hsz, hH⟩, ⟨g, SA, sn, sc, SB, sm, sd, e4, s0, s1, hSA, hSB⟩, ⟨RA, rn, rc, e5, e6, hRA⟩, ⟨QA, qn, qc, e7, e8, hQA⟩, ⟨PA, pn, pc, e9, hPA⟩, e10, e11⟩, e12⟩ := h
  obtain ⟨i1, hi1⟩ : ∃ i, i = o1.isSome := ⟨_, rfl⟩
  obtain ⟨i2, hi2⟩ : ∃ i, i = o2.isSome := ⟨_, rfl⟩
  rw [← hi1] at e6
  rw [← hi2] at e8
  have HI1 := Lib.hid hi1
  have HI2 := Lib.hid hi2
  clear hi1 hi2
  obtain ⟨tm, df⟩ := a
  simp only at hd hsz e4 e5 e6 e7 e8 e9 e10 e11 e12
  subst hd
  have hT := lit107 hsz
  rw [gv_of e4, gv_of e5, gv_of e6, gv_of e7, gv_of e8, gv_of e9, gv_of e10, gv_of e11, gv_of e12] at hT
  rw [hT]
  clear hT e4 e5 e6 e7 e8 e9 e10 e11 e12
  have HH := Lib.hid hH
  have HSA := Lib.hid hSA
  have HSB := Lib.hid hSB
  have HRA := Lib.hid hRA
  have HQA := Lib.hid hQA
  have HPA := Lib.hid hPA
  clear hH hSA hSB hRA hQA hPA hsz
  have HQ := Lib.hid hq
  have HM := Lib.hid hm
  clear hq hm
  simp only [pr17, prC, prB, prL, bodyR, Try.f3, Option.getD_some]
  go_wp2_with fail
  (with_reducible refine (c_iNextRank' HQ.out HM.out (RdI.mk HPA.out)).mono ?_)
  rintro e w1 ⟨A3, n3, c3, rfl, hO3, hE1⟩
  have HO3 := Lib.hid hO3.ri
  clear hO3
  go_wp2_with fail
  refine ⟨?_, ⟨A3, n3, c3, rfl, HO3.out⟩, rfl⟩
  exact ⟨⟨⟨rfl, HH.out.trans (Hx.ext hE1)⟩, ⟨g, SA, sn, sc, SB, sm, sd, rfl, Ext.keep hE1 s0, Ext.keep hE1 s1, HSA.out.ext hE1, HSB.out.ext hE1⟩, ⟨RA, rn, rc, rfl, by rw [← HI1.out]; rfl, HRA.out.ext hE1⟩, ⟨QA, qn, qc, rfl, by rw [← HI2.out]; rfl, HQA.out.ext hE1⟩, ⟨PA, pn, pc, rfl, HPA.out.ext hE1⟩, rfl, rfl⟩, rfl⟩
end
end Go.Proofs.Ytdlgjhngndpgoaa
namespace Go.Proofs.Ytdlgjhngndpgoaa
open Go.Conc Go.RowKit
set_option linter.unusedVariables false
set_option linter.unusedSimpArgs false
set_option maxRecDepth 100000
section
variable {v0 w : World} {s : Sy} {o1 o2 : Option (List Int)} {k : Nat} {b1 b2 : Bool} {p : List Int} {a : Act}
set_option maxHeartbeats 4000000 in
theorem wr18 {q : List Int} {m : Bool} (hm : m = decide (k < 5)) (h : Jn v0 s o1 o2 k b1 b2 p q m a w) (hd : a.defers = []) : pr18.wp Try.prog (fun e a' v' => (e = .normal ∧ Jn v0 s o1 o2 k b1 b2 p q m a' v' ∧ a'.tmps[78]? = some (.bool false)) ∨ (e = .ret ∧ False)) a w := by
  obtain ⟨⟨⟨⟨hsz, hH⟩, ⟨g, SA, sn, sc, SB, sm, sd, e4, s0, s1, hSA, hSB⟩, ⟨RA, rn, rc, e5, e6, hRA⟩, ⟨QA, qn, qc, e7, e8, hQA⟩, ⟨PA, pn, pc, e9, hPA⟩, e10, e11⟩, e12⟩, ⟨XA, xn, xc, e13, hXA⟩, e14⟩ := h
  obtain ⟨i1, hi1⟩ : ∃ i, i = o1.isSome := ⟨_, rfl⟩
  obtain ⟨i2, hi2⟩ : ∃ i, i = o2.isSome := ⟨_, rfl⟩
  rw [← hi1] at e6
  rw [← hi2] at e8
  have HI1 := Lib.hid hi1
  have HI2 := Lib.hid hi2
  clear hi1 hi2
  obtain ⟨tm, df⟩ := a
  simp only at hd hsz e4 e5 e6 e7 e8 e9 e10 e11 e12 e13 e14
  subst hd
  have hT := lit107 hsz
  rw [gv_of e4, gv_of e5, gv_of e6, gv_of e7, gv_of e8, gv_of e9, gv_of e10, gv_of e11, gv_of e12, gv_of e13, gv_of e14] at hT
  rw [hT]
  clear hT e4 e5 e6 e7 e8 e9 e10 e11 e12 e13 e14
  have HH := Lib.hid hH
  have HSA := Lib.hid hSA
  have HSB := Lib.hid hSB
  have HRA := Lib.hid hRA
  have HQA := Lib.hid hQA
  have HPA := Lib.hid hPA
  have HXA := Lib.hid hXA
  clear hXA hH hSA hSB hRA hQA hPA hsz
  subst hm
  have hdk : decide ((k : Int) < 5) = decide (k < 5) := by
    by_cases h : k < 5
    · rw [decide_eq_true h, decide_eq_true (by omega)]
    · rw [decide_eq_false h, decide_eq_false (by omega)]
  simp only [pr18, prC, prB, prL, bodyR, Try.f3, Option.getD_some]
  go_wp2_with fail
  refine ⟨?_, ⟨XA, xn, xc, rfl, HXA.out⟩, rfl⟩
  exact ⟨⟨⟨rfl, HH.out⟩, ⟨g, SA, sn, sc, SB, sm, sd, rfl, s0, s1, HSA.out, HSB.out⟩, ⟨RA, rn, rc, rfl, by rw [← HI1.out]; rfl, HRA.out⟩, ⟨QA, qn, qc, rfl, by rw [← HI2.out]; rfl, HQA.out⟩, ⟨PA, pn, pc, rfl, HPA.out⟩, rfl, rfl⟩, rfl⟩
set_option maxHeartbeats 4000000 in
theorem wr20 {q : List Int} {m : Bool} (h : Jn v0 s o1 o2 k b1 b2 p q m a w) (hd : a.defers = []) : pr20.wp Try.prog (fun e a' v' => (e = .normal ∧ Jn v0 s o1 o2 k b1 b2 p q m a' v' ∧ a'.tmps[79]? = some (.bool m)) ∨ (e = .ret ∧ False)) a w := by
  obtain ⟨⟨⟨⟨hsz, hH⟩, ⟨g, SA, sn, sc, SB, sm, sd, e4, s0, s1, hSA, hSB⟩, ⟨RA, rn, rc, e5, e6, hRA⟩, ⟨QA, qn, qc, e7, e8, hQA⟩, ⟨PA, pn, pc, e9, hPA⟩, e10, e11⟩, e12⟩, ⟨XA, xn, xc, e13, hXA⟩, e14⟩ := h
  obtain ⟨i1, hi1⟩ : ∃ i, i = o1.isSome := ⟨_, rfl⟩
  obtain ⟨i2, hi2⟩ : ∃ i, i = o2.isSome := ⟨_, rfl⟩
  rw [← hi1] at e6
  rw [← hi2] at e8
  have HI1 := Lib.hid hi1
  have HI2 := Lib.hid hi2
  clear hi1 hi2
  obtain ⟨tm, df⟩ := a
  simp only at hd hsz e4 e5 e6 e7 e8 e9 e10 e11 e12 e13 e14
  subst hd
  have hT := lit107 hsz
  rw [gv_of e4, gv_of e5, gv_of e6, gv_of e7, gv_of e8, gv_of e9, gv_of e10, gv_of e11, gv_of e12, gv_of e13, gv_of e14] at hT
  rw [hT]
  clear hT e4 e5 e6 e7 e8 e9 e10 e11 e12 e13 e14
  have HH := Lib.hid hH
  have HSA := Lib.hid hSA
  have HSB := Lib.hid hSB
  have HRA := Lib.hid hRA
  have HQA := Lib.hid hQA
  have HPA := Lib.hid hPA
  have HXA := Lib.hid hXA
  clear hXA hH hSA hSB hRA hQA hPA hsz
  simp only [pr20, prC, prB, prL, bodyR, Try.f3, Option.getD_some]
  go_wp2_with fail
  refine ⟨?_, ⟨XA, xn, xc, rfl, HXA.out⟩, rfl⟩
  exact ⟨⟨⟨rfl, HH.out⟩, ⟨g, SA, sn, sc, SB, sm, sd, rfl, s0, s1, HSA.out, HSB.out⟩, ⟨RA, rn, rc, rfl, by rw [← HI1.out]; rfl, HRA.out⟩, ⟨QA, qn, qc, rfl, by rw [← HI2.out]; rfl, HQA.out⟩, ⟨PA, pn, pc, rfl, HPA.out⟩, rfl, rfl⟩, rfl⟩
set_option maxHeartbeats 4000000 in
theorem wr21 {q : List Int} {m : Bool} (h : Jn v0 s o1 o2 k b1 b2 p q m a w) (hd : a.defers = []) : pr21.wp Try.prog (fun e a' v' => (e = .normal ∧ Jr v0 s o1 o2 k b1 b2 q a' v') ∨ (e = .ret ∧ False)) a w := by
  obtain ⟨⟨⟨⟨hsz, hH⟩, ⟨g, SA, sn, sc, SB, sm, sd, e4, s0, s1, hSA, hSB⟩, ⟨RA, rn, rc, e5, e6, hRA⟩, ⟨QA, qn, qc, e7, e8, hQA⟩, ⟨PA, pn, pc, e9, hPA⟩, e10, e11⟩, e12⟩, ⟨XA, xn, xc, e13, hXA⟩, e14⟩ := h
  obtain ⟨i1, hi1⟩ : ∃ i, i = o1.isSome := ⟨_, rfl⟩
  obtain ⟨i2, hi2⟩ : ∃ i, i = o2.isSome := ⟨_, rfl⟩
  rw [← hi1] at e6
  rw [← hi2] at e8
  have HI1 := Lib.hid hi1
  have HI2 := Lib.hid hi2
  clear hi1 hi2
  obtain ⟨tm, df⟩ := a
  simp only at hd hsz e4 e5 e6 e7 e8 e9 e10 e11 e12 e13 e14
  subst hd
  have hT := lit107 hsz
  rw [gv_of e4, gv_of e5, gv_of e6, gv_of e7, gv_of e8, gv_of e9, gv_of e10, gv_of e11, gv_of e12, gv_of e13, gv_of e14] at hT
  rw [hT]
  clear hT e4 e5 e6 e7 e8 e9 e10 e11 e12 e13 e14
  have HH := Lib.hid hH
  have HSA := Lib.hid hSA
  have HSB := Lib.hid hSB
  have HRA := Lib.hid hRA
  have HQA := Lib.hid hQA
  have HPA := Lib.hid hPA
  have HXA := Lib.hid hXA
  clear hXA hH hSA hSB hRA hQA hPA hsz
  simp only [pr21, prC, prB, prL, bodyR, Try.f3, Option.getD_some]
  go_wp2_with fail
  exact ⟨⟨⟨rfl, HH.out⟩, ⟨g, SA, sn, sc, SB, sm, sd, rfl, s0, s1, HSA.out, HSB.out⟩, ⟨RA, rn, rc, rfl, by rw [← HI1.out]; rfl, HRA.out⟩, ⟨QA, qn, qc, rfl, by rw [← HI2.out]; rfl, HQA.out⟩, ⟨XA, xn, xc, rfl, HXA.out⟩, rfl, rfl⟩, rfl⟩
end
end Go.Proofs.Ytdlgjhngndpgoaa
namespace Go.Proofs.Ytdlgjhngndpgoaa
open Go.Conc Go.RowKit
set_option linter.unusedVariables false
set_option linter.unusedSimpArgs false
set_option maxRecDepth 100000
section
variable {v0 w : World} {s : Sy} {o1 o2 : Option (List Int)} {k : Nat} {b1 b2 : Bool} {p : List Int} {a : Act}
set_option maxHeartbeats 4000000 in
theorem wr22 (f1 : ∀ r, o1 = some r → orientsV true s r = true) (f2 : ∀ r, o2 = some r → orientsV false s r = true) (h : Jr v0 s o1 o2 k o1.isSome o2.isSome p a w) (hd : a.defers = []) : pr22.wp Try.prog (fun e a' v' => (e = .normal ∧ Rr v0 a' v') ∨ (e = .ret ∧ False)) a w := by
  cases o1 with
  | none =>
    cases o2 with
    | none =>
      obtain ⟨⟨⟨hsz, hH⟩, ⟨q, SA, sn, sc, SB, sm, sd, e4, s0, s1, hSA, hSB⟩, ⟨RA, rn, rc, e5, e6, hRA⟩, ⟨QA, qn, qc, e7, e8, hQA⟩, ⟨PA, pn, pc, e9, hPA⟩, e10, e11⟩, e12⟩ := h
      obtain ⟨tm, df⟩ := a
      simp only at hd hsz e4 e5 e6 e7 e8 e9 e10 e11 e12
      subst hd
      have hT := lit107 hsz
      rw [gv_of e4, gv_of e5, gv_of e6, gv_of e7, gv_of e8, gv_of e9, gv_of e10, gv_of e11, gv_of e12] at hT
      rw [hT]
      clear hT e4 e5 e6 e7 e8 e9 e10 e11 e12
      have HH := Lib.hid hH
      have HSA := Lib.hid hSA
      have HSB := Lib.hid hSB
      have HRA := Lib.hid hRA
      have HQA := Lib.hid hQA
      have HPA := Lib.hid hPA
      clear hH hSA hSB hRA hQA hPA hsz
      clear f1 f2
      have HRA := Lib.hid (show RI w RA rn [] from HRA.out)
      have HQA := Lib.hid (show RI w QA qn [] from HQA.out)
      simp only [pr22, bodyR, Try.f3, Option.getD_some]
      go_wp2_with fail
      exact ⟨rfl, rfl, HH.out⟩
    | some r2 =>
      obtain ⟨⟨⟨hsz, hH⟩, ⟨q, SA, sn, sc, SB, sm, sd, e4, s0, s1, hSA, hSB⟩, ⟨RA, rn, rc, e5, e6, hRA⟩, ⟨QA, qn, qc, e7, e8, hQA⟩, ⟨PA, pn, pc, e9, hPA⟩, e10, e11⟩, e12⟩ := h
      obtain ⟨tm, df⟩ := a
      simp only at hd hsz e4 e5 e6 e7 e8 e9 e10 e11 e12
      subst hd
      have hT := lit107 hsz
      rw [gv_of e4, gv_of e5, gv_of e6, gv_of e7, gv_of e8, gv_of e9, gv_of e10, gv_of e11, gv_of e12] at hT
      rw [hT]
      clear hT e4 e5 e6 e7 e8 e9 e10 e11 e12
      have HH := Lib.hid hH
      have HSA := Lib.hid hSA
      have HSB := Lib.hid hSB
      have HRA := Lib.hid hRA
      have HQA := Lib.hid hQA
      have HPA := Lib.hid hPA
      clear hH hSA hSB hRA hQA hPA hsz
      have HG2 := Lib.hid (f2 r2 rfl)
      clear f1 f2
      have HRA := Lib.hid (show RI w RA rn [] from HRA.out)
      have HQA := Lib.hid (show RI w QA qn r2 from HQA.out)
      simp only [pr22, bodyR, Try.f3, Option.getD_some]
      go_wp2_with fail
      (with_reducible refine (c_sOBB HG2.out (RdSyK.mk HSA.out HSB.out) (RdI.mk HQA.out)).mono ?_)
      rintro e w2 ⟨rfl, hE2⟩
      go_wp2_with fail
      exact ⟨rfl, rfl, HH.out.trans (Hx.ext hE2)⟩
  | some r1 =>
    cases o2 with
    | none =>
      obtain ⟨⟨⟨hsz, hH⟩, ⟨q, SA, sn, sc, SB, sm, sd, e4, s0, s1, hSA, hSB⟩, ⟨RA, rn, rc, e5, e6, hRA⟩, ⟨QA, qn, qc, e7, e8, hQA⟩, ⟨PA, pn, pc, e9, hPA⟩, e10, e11⟩, e12⟩ := h
      obtain ⟨tm, df⟩ := a
      simp only at hd hsz e4 e5 e6 e7 e8 e9 e10 e11 e12
      subst hd
      have hT := lit107 hsz
      rw [gv_of e4, gv_of e5, gv_of e6, gv_of e7, gv_of e8, gv_of e9, gv_of e10, gv_of e11, gv_of e12] at hT
      rw [hT]
      clear hT e4 e5 e6 e7 e8 e9 e10 e11 e12
      have HH := Lib.hid hH
      have HSA := Lib.hid hSA
      have HSB := Lib.hid hSB
      have HRA := Lib.hid hRA
      have HQA := Lib.hid hQA
      have HPA := Lib.hid hPA
      clear hH hSA hSB hRA hQA hPA hsz
      have HG1 := Lib.hid (f1 r1 rfl)
      clear f1 f2
      have HRA := Lib.hid (show RI w RA rn r1 from HRA.out)
      have HQA := Lib.hid (show RI w QA qn [] from HQA.out)
      simp only [pr22, bodyR, Try.f3, Option.getD_some]
      go_wp2_with fail
      (with_reducible refine (c_sOAB HG1.out (RdSyK.mk HSA.out HSB.out) (RdI.mk HRA.out)).mono ?_)
      rintro e w1 ⟨rfl, hE1⟩
      have s0b := Ext.keep hE1 s0
      have s1b := Ext.keep hE1 s1
      go_wp2_with fail
      exact ⟨rfl, rfl, HH.out.trans (Hx.ext hE1)⟩
    | some r2 =>
      obtain ⟨⟨⟨hsz, hH⟩, ⟨q, SA, sn, sc, SB, sm, sd, e4, s0, s1, hSA, hSB⟩, ⟨RA, rn, rc, e5, e6, hRA⟩, ⟨QA, qn, qc, e7, e8, hQA⟩, ⟨PA, pn, pc, e9, hPA⟩, e10, e11⟩, e12⟩ := h
      obtain ⟨tm, df⟩ := a
      simp only at hd hsz e4 e5 e6 e7 e8 e9 e10 e11 e12
      subst hd
      have hT := lit107 hsz
      rw [gv_of e4, gv_of e5, gv_of e6, gv_of e7, gv_of e8, gv_of e9, gv_of e10, gv_of e11, gv_of e12] at hT
      rw [hT]
      clear hT e4 e5 e6 e7 e8 e9 e10 e11 e12
      have HH := Lib.hid hH
      have HSA := Lib.hid hSA
      have HSB := Lib.hid hSB
      have HRA := Lib.hid hRA
      have HQA := Lib.hid hQA
      have HPA := Lib.hid hPA
      clear hH hSA hSB hRA hQA hPA hsz
      have HG1 := Lib.hid (f1 r1 rfl)
      have HG2 := Lib.hid (f2 r2 rfl)
      clear f1 f2
      have HRA := Lib.hid (show RI w RA rn r1 from HRA.out)
      have HQA := Lib.hid (show RI w QA qn r2 from HQA.out)
      simp only [pr22, bodyR, Try.f3, Option.getD_some]
      go_wp2_with fail
      (with_reducible refine (c_sOAB HG1.out (RdSyK.mk HSA.out HSB.out) (RdI.mk HRA.out)).mono ?_)
      rintro e w1 ⟨rfl, hE1⟩
      have s0b := Ext.keep hE1 s0
      have s1b := Ext.keep hE1 s1
      go_wp2_with fail
      (with_reducible refine (c_sOBB HG2.out (RdSyK.mk (HSA.out.ext hE1) (HSB.out.ext hE1)) (RdI.mk (HQA.out.ext hE1))).mono ?_)
      rintro e w2 ⟨rfl, hE2⟩
      have hE2 := Ext.trans hE1 hE2
      go_wp2_with fail
      exact ⟨rfl, rfl, HH.out.trans (Hx.ext hE2)⟩
end
end Go.Proofs.Ytdlgjhngndpgoaa
namespace Go.Proofs.Ytdlgjhngndpgoaa
open Go.Conc Go.RowKit
set_option linter.unusedVariables false
set_option linter.unusedSimpArgs false
section
variable {L : Lim} {β γ : Bl}
theorem VRel.uniq (hid : ∀ k x, k < L.m → β k = some x → x = k) {u y : Value} (h : VRel L β u y) : ∀ {z : Value}, VRel L β u z → y = z := by
  have arr : ∀ {us bs cs : Array Value}, us.size = bs.size → us.size = cs.size → (∀ (i : Nat) (v w : Value), us[i]? = some v → bs[i]? = some w → ∀ {z : Value}, VRel L β v z → w = z) →
      (∀ (i : Nat) (v w : Value), us[i]? = some v → cs[i]? = some w → VRel L β v w) → bs = cs := fun {us bs cs} h1 h2 ih k => by
    refine Array.ext_getElem? fun i => ?_
    cases hb : bs[i]? with
    | none =>
      have : cs.size ≤ i := by rw [← h2, h1]; simpa using hb
      simp [this]
    | some b =>
      have hi : i < bs.size := (Array.getElem?_eq_some_iff.1 hb).1
      have ha : us[i]? = some us[i] := Array.getElem?_eq_getElem (by omega)
      have hc : cs[i]? = some cs[i] := Array.getElem?_eq_getElem (by omega)
      rw [hc, ih i _ _ ha hb (k i _ _ ha hc)]
  have ora : ∀ {a b c : Option Addr}, OARel L β a b → OARel L β a c → b = c := fun {a b c} h k => by
    cases a with
    | none => cases b <;> cases c <;> first | rfl | exact h.elim | exact k.elim
    | some a =>
      cases b with
      | none => exact h.elim
      | some b =>
        cases c with
        | none => exact k.elim
        | some c =>
          obtain ⟨h1, h2, h3, _⟩ := h
          obtain ⟨k1, k2, k3, _⟩ := k
          rw [h1] at k1
          obtain ⟨bb, bo, bs⟩ := b
          obtain ⟨cb, co, cs⟩ := c
          simp only at h2 h3 k2 k3 k1
          injection k1 with k1
          rw [k1, ← h2, ← h3, ← k2, ← k3]
  have orz : ∀ {a : Addr} {b : Option Addr}, a.block < L.m → OARel L β (some a) b → b = some a := fun {a b} hm h => by
    cases b with
    | none => exact h.elim
    | some b =>
      obtain ⟨h1, h2, h3, _⟩ := h
      have := hid _ _ hm h1
      obtain ⟨bb, bo, bs⟩ := b
      obtain ⟨ab, ao, us⟩ := a
      simp only at h2 h3 this
      rw [this, h2, h3]
  induction h with
  | poison h => exact fun k => (pz_inv k).symm
  | bool b => intro z k; generalize hx : Value.bool b = x at k; cases k <;> cases hx <;> rfl
  | int kd n => intro z k; generalize hx : Value.int kd n = x at k; cases k <;> cases hx <;> rfl
  | string s => intro z k; generalize hx : Value.string s = x at k; cases k <;> cases hx <;> rfl
  | @pointer a b h =>
    intro z k; generalize hx : Value.pointer a = x at k
    cases k <;> cases hx
    rename_i k
    rw [ora h k]
  | @slice a b n c h =>
    intro z k; generalize hx : Value.slice a n c = x at k
    cases k <;> cases hx
    · rename_i k
      rw [ora h k]
    · rename_i k
      rw [orz k h]
  | sliceZ a h =>
    intro z k; generalize hx : Value.slice (some a) 0 0 = x at k
    cases k <;> cases hx
    · rename_i k
      rw [orz h k]
    · rfl
  | map => intro z k; generalize hx : Value.map none = x at k; cases k <;> cases hx <;> rfl
  | @chan r s h =>
    intro z k; generalize hx : Value.chan (some r) = x at k
    cases k <;> cases hx
    rename_i k
    rw [h] at k; cases k; rfl
  | chan0 => intro z k; generalize hx : Value.chan none = x at k; cases k <;> cases hx <;> rfl
  | @func f us bs cs ds hf h1 h2 _ _ i3 i4 =>
    intro z k; generalize hx : Value.func (.func f) us cs = x at k
    cases k <;> cases hx
    congr 1
    · exact arr h1 (by assumption) i3 (by assumption)
    · exact arr h2 (by assumption) i4 (by assumption)
  | nilFunc => intro z k; generalize hx : Value.nilFunc = x at k; cases k <;> cases hx <;> rfl
  | @iface t v w ht h ih =>
    intro z k; generalize hx : Value.iface t v = x at k
    cases k <;> cases hx
    rename_i k1 k2
    rw [ih k2]
  | nilIface => intro z k; generalize hx : Value.nilIface = x at k; cases k <;> cases hx <;> rfl
  | @agg us bs h1 h ih =>
    intro z k; generalize hx : Value.agg us = x at k
    cases k <;> cases hx
    rename_i k1 k2
    rw [arr h1 k1 ih k2]
  | @tuple us bs h1 h ih =>
    intro z k; generalize hx : Value.tuple us = x at k
    cases k <;> cases hx
    rename_i k1 k2
    rw [arr h1 k1 ih k2]
theorem VsRel.uniq (hid : ∀ k x, k < L.m → β k = some x → x = k) {us ys zs : Array Value} (h : VsRel L β us ys) (k : VsRel L β us zs) : ys = zs := by
  have := VRel.uniq hid (VRel.agg h.1 h.2) (VRel.agg k.1 k.2)
  injection this
end
def isCells : Option Obj → Bool
  | some (.cells _ _ _) => true
  | _ => false
def bet0 (W : World) : Bl := fun k => if isCells W.heap[k]? then some k else none
theorem bet0_inv {W : World} {k x : Nat} (h : bet0 W k = some x) : x = k ∧ ∃ d T f, W.heap[k]? = some (.cells d T f) := by
  unfold bet0 at h
  split at h
  · rename_i hc
    cases h
    refine ⟨rfl, ?_⟩
    cases hk : W.heap[k]? with
    | none => rw [hk] at hc; cases hc
    | some o =>
      rw [hk] at hc
      cases o with
      | cells d T f => exact ⟨d, T, f, rfl⟩
      | _ => cases hc
  · cases h
theorem bet0_of {W : World} {k : Nat} {d : Array Value} {T : TypeId} {f : Nat × Nat} (h : W.heap[k]? = some (.cells d T f)) : bet0 W k = some k := by
  unfold bet0
  rw [h]; rfl
def padW (W : World) (m : Nat) : World := { W with heap := W.heap ++ Array.replicate m default }
theorem padW_at {W : World} {m k : Nat} (h : k < W.heap.size) : (padW W m).heap[k]? = W.heap[k]? := by
  show (W.heap ++ _)[k]? = _
  rw [Array.getElem?_append_left h]
theorem padW_size (W : World) (m : Nat) : (padW W m).heap.size = W.heap.size + m := by simp [padW]
theorem ghost_start (L : Lim) (hg : L.g = 0) (W : World) : ∃ v : World, v.heap.size = W.heap.size + L.m ∧ WRel L (bet0 W) v W ∧ ∀ (p : Addr) (x : Value), W.cell? p = some x → VRel L (bet0 W) x x → v.cell? p = some x := by
  obtain ⟨v, h1, _, _, _, _, h6, h7⟩ := rebuild (L := L) (γ := bet0 W) (padW W L.m) W (fun k x e => by
    obtain ⟨rfl, d, T, f, h⟩ := bet0_inv e
    have := (Array.getElem?_eq_some_iff.1 h).1
    exact ⟨by rw [padW_size]; omega, d, T, f, h⟩) (fun k l x e1 e2 => by rw [← (bet0_inv e1).1, ← (bet0_inv e2).1]) (by rw [hg]; exact Nat.zero_le _) (by rw [hg]; exact Nat.zero_le _)
  refine ⟨v, by rw [h1, padW_size], h6, fun p x hx hr => ?_⟩
  obtain ⟨c, T, f, e, hs, hc⟩ := cell_isC hx
  have hlt := (Array.getElem?_eq_some_iff.1 e).1
  obtain ⟨c', k1, k2, k3⟩ := h7 p.block p.block c T f (bet0_of e) e
  have := k3 p.off x x (by rw [padW_at hlt, e]; exact hc) hc hr
  unfold World.cell?
  rw [k1]
  simp only [hs, Option.isSome_none, Bool.false_eq_true, if_false]
  exact this
theorem real_end {L : Lim} {W v v' w : World} {γ : Bl} {O : Set_} (hv : L.m ≤ v.heap.size) (hW : WRel L (bet0 W) v W) (hW' : WRel L γ v' w) (hH : Hx v v') (hA : Acc (fun x => x < W.heap.size) (bet0 W) v W O γ v' w) : Below W.heap.size W w := by
  refine ⟨hA.os, hA.tape, hA.output, hA.gw, fun k hk => ?_⟩
  have hid : ∀ k x, k < L.m → γ k = some x → x = k := fun k x hm e => by
    rcases hA.new k x e with h | ⟨_, h⟩
    · exact (bet0_inv h).1
    · omega
  cases hb : bet0 W k with
  | none =>
    refine hA.keep k hk hk fun l e => ?_
    obtain ⟨rfl, d, T, f, h⟩ := bet0_inv e
    rw [bet0_of h] at hb; cases hb
  | some x =>
    obtain ⟨rfl, d, T, f, h⟩ := bet0_inv hb
    obtain ⟨o, p, h1, h2, h3⟩ := hW.blk _ _ hb
    rw [h] at h2; cases h2
    cases h3 with
    | cells _ _ h3 =>
      rename_i c
      obtain ⟨o', p', k1, k2, k3⟩ := hW'.blk _ _ (hA.le _ _ hb)
      rw [hH.2 x (lt_of_heap h1), h1] at k1
      cases k1
      cases k3 with
      | cells _ _ k3 =>
        rename_i d'
        rw [k2, h]
        rw [VsRel.uniq hid k3 (h3.mono hA.le)]
end Go.Proofs.Ytdlgjhngndpgoaa
namespace Go.Proofs.Ytdlgjhngndpgoaa
open Go.ChangeShapes Go.WideShapes Go.ChangeAt Go.RowKit Go.Joins Go.Deep
set_option linter.unusedSimpArgs false
set_option linter.unusedVariables false
set_option linter.constructorNameAsVariable false
def Fit (w : World) (A : Option Addr) (n c : Nat) : Prop := A = none ∨ ∃ a, A = some a ∧ ((∃ d T f, w.heap[a.block]? = some (.cells d T f)) ∨ (n = 0 ∧ c = 0))
theorem Fit.of_cell {w : World} {a : Addr} {n c : Nat} {i : Nat} {x : Value} (h : w.cell? (a.add i) = some x) : Fit w (some a) n c := by
  obtain ⟨d, T, f, h1, _⟩ := cell_isC h
  rw [add_blockC] at h1
  exact .inr ⟨a, rfl, .inl ⟨d, T, f, h1⟩⟩
theorem Fit.rel {w : World} {A : Option Addr} {n c : Nat} (h : Fit w A n c) : ∃ M, ∀ m, M ≤ m → VRel (LM m) (bet0 w) (.slice A n c) (.slice A n c) := by
  rcases h with rfl | ⟨a, rfl, ⟨d, T, f, h⟩ | ⟨rfl, rfl⟩⟩
  · exact ⟨0, fun m _ => .slice (a := none) (b := none) _ _ trivial⟩
  · exact ⟨0, fun m _ => .slice (a := some a) (b := some a) _ _ ⟨bet0_of h, rfl, rfl, Nat.zero_le _, Nat.zero_le _⟩⟩
  · exact ⟨a.block + 1, fun m hm => .sliceZ a (show a.block < m by omega)⟩
section
variable {H : Type} {enc : TypeId × Value → H} {P : Program} {w : World} {base b0 : Nat} {held : Bool} {r : Reach}
end
section
variable {W v : World} {m : Nat} {A : Option Addr} {n c : Nat}
end
end Go.Proofs.Ytdlgjhngndpgoaa
namespace Go.Proofs.Ytdlgjhngndpgoaa
open Go.ChangeShapes Go.WideShapes Go.ChangeAt Go.RowKit Go.Joins Go.Deep
set_option linter.unusedSimpArgs false
set_option linter.unusedVariables false
set_option linter.constructorNameAsVariable false
section
variable {H : Type} {enc : TypeId × Value → H} {w : World} {base b0 : Nat} {held : Bool} {r : Reach}
set_option maxRecDepth 100000 in
theorem raw_By {v : Value} {d : DataW H} {p : List MemPlace} (hv : Value.okWide Try.prog w r b0 22 v) (h : DataW.Trod enc Try.prog w base (fun _ => true) held 22 v d p) : ∃ x, RawBy w v x := by
  obtain ⟨a0, len0, cap0, rfl⟩ := okWide_slice Try.underlying22 hv
  obtain ⟨fuel, hf⟩ := h
  rcases open_ints Try.underlying22 Try.underlying5 (by kernel_rfl) hf with ⟨hcs, _⟩ | ⟨a, len, cap, zs, hcs, _, hl, hm, hz, _, hcell, hwf⟩
  · simp [Value.cells] at hcs
    obtain ⟨rfl, rfl, rfl⟩ := hcs
    exact ⟨0, none, 0, rfl, by omega, fun h => by omega⟩
  · simp [Value.cells] at hcs
    obtain ⟨rfl, rfl, rfl⟩ := hcs
    simp only [if_true] at hz
    refine ⟨len0, some a, cap0, rfl, by unfold maxLen at hm; omega, fun hn => ?_⟩
    obtain ⟨b, o, spot⟩ := a
    have hspot : spot = none := by
      have := hcell 0 (by omega)
      simpa [Addr.add] using World.cell?_spot this
    subst hspot
    refine ⟨b, o, rfl, fun j hj => ?_⟩
    have hcj := hcell j (by omega)
    rw [Addr.add_lit] at hcj
    refine ⟨_, hcj, ?_⟩
    have hjl : j < zs.length := by omega
    have hm' : zs.getD j 0 ∈ zs := by
      rw [List.getD_eq_getElem?_getD, List.getElem?_eq_getElem hjl]
      exact List.getElem_mem hjl
    have := hwf _ hm'
    simp only [Lit.wf, IntKind.min, IntKind.max, IntKind.bits, IntKind.signed] at this
    simp at this
    simp only [List.getD_eq_getElem?_getD] at *
    omega
end
end Go.Proofs.Ytdlgjhngndpgoaa
