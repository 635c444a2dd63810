/- The reference's: two terms made one. -/
import Derived.Test.YtempekmenkeigaaUfB
import Derived.Test.YtempekmenkeigaaDepU
namespace Go.Proofs.Ytempekmenkeigaa
open Go.RowKit
set_option linter.unusedSimpArgs false
set_option linter.unusedVariables false

/-- The boxes of the call: the signature's, the list's, the result's. -/
structure UnS (w wr : World) (SA A : Option Addr) (sn sc n c : Nat) : Prop where
  on : Ext w wr
  s0 : wr.cell? ⟨w.heap.size, 0, none⟩ = some (.slice SA sn sc)
  s1 : wr.cell? ⟨w.heap.size + 1, 0, none⟩ = some (.slice A n c)
  f1 : wr.frozen? ⟨w.heap.size + 1, 0, none⟩ = false
  s2 : wr.cell? ⟨w.heap.size + 1 + 1, 0, none⟩ = some (.slice none 0 0)
  f2 : wr.frozen? ⟨w.heap.size + 1 + 1, 0, none⟩ = false
section
variable {w wr w' : World} {SA A : Option Addr} {sn sc n c : Nat}
theorem UnS.lt (h : UnS w wr SA A sn sc n c) : w.heap.size + 1 + 1 < wr.heap.size := World.block_lt_of_cell? wr _ h.s2
theorem UnS.ext (h : UnS w wr SA A sn sc n c) (k : Ext wr w') : UnS w w' SA A sn sc n c :=
  ⟨h.on.trans k, Ext.keep k h.s0, Ext.keep k h.s1, (Below.frozen (p := ⟨w.heap.size + 1, 0, none⟩) k (by have := h.lt; show w.heap.size + 1 < wr.heap.size; omega)).trans h.f1, Ext.keep k h.s2, (Below.frozen (p := ⟨w.heap.size + 1 + 1, 0, none⟩) k h.lt).trans h.f2⟩
theorem UnS.next {A2 : Option Addr} {n2 c2 : Nat} {σ : List (List Int)} (h : UnS w wr SA A sn sc n c) (hR : RSo (w.heap.size + 1 + 1 + 1) wr A2 n2 σ) (o : Obj) :
    UnS w ((wr.setCell ⟨w.heap.size + 1, 0, none⟩ (.slice A2 n2 c2)).alloc o) SA A2 sn sc n2 c2 ∧ RSo (w.heap.size + 1 + 1 + 1) ((wr.setCell ⟨w.heap.size + 1, 0, none⟩ (.slice A2 n2 c2)).alloc o) A2 n2 σ := by
  have hS : UnS w (wr.setCell ⟨w.heap.size + 1, 0, none⟩ (.slice A2 n2 c2)) SA A2 sn sc n2 c2 :=
    ⟨Ext.set h.on (by show w.heap.size ≤ w.heap.size + 1; omega) _, (World.cell?_setCell_other _ _ _ _ (by simp)).trans h.s0, World.cell?_setCell_same _ _ _ h.s1, by simp [go_sem, h.f1], (World.cell?_setCell_other _ _ _ _ (by simp)).trans h.s2, by simp [go_sem, h.f2]⟩
  exact ⟨hS.ext ((Ext.refl _).alloc _), (hR.set (by show w.heap.size + 1 < w.heap.size + 1 + 1 + 1; omega) _).ext ((Ext.refl _).alloc _)⟩
end
/-- What making one gives. -/
def NewUn (w : World) (ar a b : List Int) (e : Ending) (w' : World) : Prop := ∃ (A : Option Addr) (n c : Nat) (d : Bool), e = .returned (.tuple #[.agg #[.slice A n c], .bool d]) ∧ (d = true → ∃ τ, RSg w' A n τ ∧ SubP ar τ ∧ fill (gives τ) a = fill (gives τ) b) ∧ Ext w w'
theorem NewUn.no {w w' : World} {ar a b : List Int} (k : Ext w w') : NewUn w ar a b (.returned (.tuple #[.agg #[.slice none 0 0], .bool false])) w' :=
  ⟨none, 0, 0, false, rfl, (fun h => by cases h), k⟩
theorem fillO_of {σ : List (List Int)} {t x : List Int} (h : fillO σ t = some x) : x = fill (gives σ) t ∧ x.length ≤ 60 := by
  unfold fillO at h
  split at h
  · cases h; exact ⟨rfl, by assumption⟩
  · cases h
theorem PreEq.start (x y : List Int) : PreEq x y 0 := fun j h => absurd h (Nat.not_lt_zero _)
theorem PreEq.succ {x y : List Int} {k : Nat} {z : Int} (h : PreEq x y k) (hx : x[k]? = some z) (hy : y[k]? = some z) : PreEq x y (k + 1) := fun j hj => by
  rcases Nat.lt_or_ge j k with h1 | h1
  · exact h j h1
  · obtain rfl : j = k := by omega
    rw [hx, hy]
theorem PreEq.symm {x y : List Int} {k : Nat} (h : PreEq x y k) : PreEq y x k := fun j hj => (h j hj).symm
set_option maxRecDepth 100000 in
set_option maxHeartbeats 16000000 in
theorem c_l5Unify {v0 : Value} {ar a b : List Int} {PA PB : Option Addr} {n c m d : Nat} {w : World} (h0 : RdSig w v0 ar) (h1 : RI w PA n a) (h2 : RI w PB m b) (ha : TermP ar a) (hb : TermP ar b) :
    Calls Try.prog 73 #[v0, .agg #[.slice none 0 0], .slice PA n c, .slice PB m d] w (NewUn w ar a b) := by
  obtain ⟨SA, sn, sc, rfl, hs⟩ := h0
  have HS := Lib.hid hs
  have HA := Lib.hid h1
  have HB := Lib.hid h2
  have HTA := Lib.hid ha
  have HTB := Lib.hid hb
  clear hs h1 h2 ha hb
  go_enter Try.func73, Try.ntmps73
  go_wp2_with fail
  obtain ⟨w1, hw1⟩ : ∃ w1, w1 = ((w.alloc (.cells #[.slice SA sn sc] 31)).alloc (.cells #[.slice none 0 0] 55)).alloc (.cells #[.slice none 0 0] 55) := ⟨_, rfl⟩
  have HU1 := Lib.hid (show UnS w w1 SA none sn sc 0 0 from ⟨by rw [hw1]; exact extX, by rw [hw1]; simp [go_sem], by rw [hw1]; simp [go_sem], by rw [hw1]; simp [go_sem], by rw [hw1]; simp [go_sem], by rw [hw1]; simp [go_sem]⟩)
  have HR1 := Lib.hid (show RSo (w.heap.size + 1 + 1 + 1) w1 none 0 [] from ⟨⟨rfl, by omega⟩, fun j xs hx => by simp at hx⟩)
  have HP1 := Lib.hid (show SubP ar [] from ⟨by simp, fun t ht => by simp at ht⟩)
  have HI1 := Lib.hid Idm.start
  rw [← hw1]
  clear hw1
  go_loopg [] (fcnt []) (fun K wr => (∃ A9 n9 c9 τ, Hid (UnS w wr SA A9 sn sc n9 c9) ∧ Hid (RSo (w.heap.size + 1 + 1 + 1) wr A9 n9 τ) ∧ Hid (SubP ar τ) ∧ Hid (Idm τ) ∧ Hid (fcnt τ ≤ K)))
  case atStart => exact ⟨none, 0, 0, [], HU1, HR1, HP1, HI1, Lib.hid (Nat.le_refl _)⟩
  case round =>
    obtain ⟨A9, n9, c9, τ, HU, HR, HP, HI, HK⟩ := hrel
    obtain ⟨w4, rfl⟩ : ∃ w4 : World, w4 = wr := ⟨_, rfl⟩
    clear HU1 HR1 HP1 HI1
    have HE4 := Lib.hid HU.out.on
    obtain ⟨f1, HF1⟩ : ∃ f1, Hid (fillO τ a = f1) := ⟨_, Lib.hid rfl⟩
    obtain ⟨f2, HF2⟩ : ∃ f2, Hid (fillO τ b = f2) := ⟨_, Lib.hid rfl⟩
    obtain ⟨_, _, hs1, _, _, _⟩ := HU.out
    go_wp2_with fail
    (with_reducible refine (c_l2FilledO HF1.out HP.out HTA.out (RdSub.mk HR.out.rsg) (RI.ext HA.out HE4.out)).mono ?_)
    rintro e w5 ⟨A5, n5, c5, rfl, hO5, hE5⟩
    have HU5 := Lib.hid (HU.out.ext hE5)
    have HR5 := Lib.hid (HR.out.ext hE5)
    have HO5 := Lib.hid hO5
    clear hO5 hs1
    obtain ⟨hE5w, _, hs1, _, _, _⟩ := HU5.out
    go_wp2_with fail
    (with_reducible refine (c_l2FilledO HF2.out HP.out HTB.out (RdSub.mk HR5.out.rsg) (RI.ext HB.out hE5w)).mono ?_)
    rintro e w6 ⟨A6, n6, c6, rfl, hO6, hE6⟩
    have HU6 := Lib.hid (HU5.out.ext hE6)
    have HR6 := Lib.hid (HR5.out.ext hE6)
    have HO5 := Lib.hid (HO5.out.ext hE6)
    have HO6 := Lib.hid hO6
    clear hO6 hs1 hE5 hE6 HU5 HR5 HU HR hE5w
    obtain ⟨hE6w, hs0, hs1, _, hs2, hf2⟩ := HU6.out
    have HNO := Lib.hid (fun v => NewUn.no (ar := ar) (a := a) (b := b) (Ext.set hE6w (p := ⟨w.heap.size + 1 + 1, 0, none⟩) (by show w.heap.size ≤ w.heap.size + 1 + 1; omega) v))
    cases f1 with
    | none =>
      simp only [Option.isSome_none]
      go_wp2_with fail
      refine bodyPost_ret (v := .tuple #[.agg #[.slice none 0 0], .bool false]) (by simp [results, Try.results73, go_sem, hs2, hf2]) rfl ?_
      exact HNO.out _
    | some X =>
      cases f2 with
      | none =>
        simp only [Option.isSome_none, Option.isSome_some]
        go_wp2_with fail
        refine bodyPost_ret (v := .tuple #[.agg #[.slice none 0 0], .bool false]) (by simp [results, Try.results73, go_sem, hs2, hf2]) rfl ?_
        exact HNO.out _
      | some Y =>
        have HX := Lib.hid (fillO_of HF1.out)
        have HY := Lib.hid (fillO_of HF2.out)
        have HTX := Lib.hid (show TermP ar X by have h := HX.out.2; rw [HX.out.1] at h ⊢; exact fill_term HP.out HTA.out h)
        have HTY := Lib.hid (show TermP ar Y by have h := HY.out.2; rw [HY.out.1] at h ⊢; exact fill_term HP.out HTB.out h)
        have HFX := Lib.hid (show ∀ z ∈ X, z < 0 → gives τ z = [z] from fun z hz h0 => fill_free HI.out (by rw [← HX.out.1]; exact hz) h0)
        have HFY := Lib.hid (show ∀ z ∈ Y, z < 0 → gives τ z = [z] from fun z hz h0 => fill_free HI.out (by rw [← HY.out.1]; exact hz) h0)
        have HO5 := Lib.hid (show OwI w6 w4.heap.size A5 n5 c5 X from HO5.out)
        have HO6 := Lib.hid (show OwI w6 w5.heap.size A6 n6 c6 Y from HO6.out)
        have HNX := Lib.hid HO5.out.len
        have HNY := Lib.hid HO6.out.len
        have hn5 : n5 ≤ 60 := by rw [← HNX.out]; exact HX.out.2
        have hn6 : n6 ≤ 60 := by rw [← HNY.out]; exact HY.out.2
        simp only [Option.isSome_some]
        clear hs0 hs1 hs2 hf2 hE6w HNO
        go_wp2_with fail
        go_loopw [14] (fun kv wr => ∃ k : Nat, kv = .int .i64 k ∧ k ≤ n5 ∧ k ≤ n6 ∧ Hid (PreEq X Y k) ∧ Hid (Ext w6 wr)) (fun kv _ => n5 - (intOf kv).toNat)
        case atStart => exact ⟨0, rfl, Nat.zero_le _, Nat.zero_le _, Lib.hid (PreEq.start X Y), Lib.hid (Ext.refl _)⟩
        case round =>
          obtain ⟨k, rfl, hk5, hk6, HPR, HE7⟩ := hrel
          by_cases h5 : k < n5
          · have h5i : (k : Int) < (n5 : Int) := by omega
            have hk0 : (0 : Int) ≤ (k : Int) := by omega
            by_cases h6 : k < n6
            · have h6i : (k : Int) < (n6 : Int) := by omega
              obtain ⟨b5, o5, p, rfl, hp, hcp⟩ := RI.at_ (HO5.out.ri.ext HE7.out) h5
              obtain ⟨b6, o6, q, rfl, hq, hcq⟩ := RI.at_ (HO6.out.ri.ext HE7.out) h6
              have HPK := Lib.hid hp
              have HQK := Lib.hid hq
              clear hp hq
              by_cases hpq : p = q
              · subst hpq
                have hne : (p == p) = true := by simp
                have HNX2 := Lib.hid (HPR.out.succ HPK.out HQK.out)
                go_wp2_with fail
                go_quiet (fail)
                go_wp2_with fail
                go_roundw
                case rel => exact ⟨k + 1, by go_num, by omega, by omega, HNX2, Lib.hid (Ext.trans HE7.out (by exact extX))⟩
                case measure => simp only [intOf]; omega
              · have hne : (p == q) = false := by simpa using hpq
                have hkn : ((k : Int) == (n5 : Int)) = false := by simp; omega
                have hp24 := HTX.out.2.2.1 p (List.mem_of_getElem? HPK.out)
                have hq24 := HTY.out.2.2.1 q (List.mem_of_getElem? HQK.out)
                clear hpq
                go_wp2_with fail
                go_quiet (fail)
                obtain ⟨w8, hw8⟩ : ∃ w8, w8 = wr.drewN nq := ⟨_, rfl⟩
                have hE8 : Ext wr w8 := by rw [hw8]; exact (Ext.refl wr).drewN nq
                rw [← hw8]
                clear hw8
                have hE68 := Ext.trans HE7.out hE8
                have HU8 := Lib.hid (HU6.out.ext hE68)
                have HR8 := Lib.hid (HR6.out.ext hE68)
                have HO58 := Lib.hid (HO5.out.ext hE68)
                have HO68 := Lib.hid (HO6.out.ext hE68)
                have hdp := Ext.keep hE8 hcp
                have hdq := Ext.keep hE8 hcq
                clear hcp hcq
                obtain ⟨hE8w, hs0, _, _, _, _⟩ := HU8.out
                go_wp2_with fail
                (with_reducible refine (c_l1SubT (p := k) (RdSig.mk (RI.ext HS.out hE8w)) HO68.out.ri HO68.out.cap HTY.out (by have := HNY.out; omega)).mono ?_)
                rintro e w9 ⟨A9', n9', c9', rfl, hO9, hE9⟩
                have HU9 := Lib.hid (HU8.out.ext hE9)
                have HR9 := Lib.hid (HR8.out.ext hE9)
                have HO59 := Lib.hid (HO58.out.ext hE9)
                have HO9 := Lib.hid hO9
                clear hO9 hs0 hE8w HU8 HR8 HO58 HO68 hE68 hE8 hdp hdq
                obtain ⟨hE9w, hs0, hs1, _, hs2, hf2⟩ := HU9.out
                have HNO := Lib.hid (fun v => NewUn.no (ar := ar) (a := a) (b := b) (Ext.set hE9w (p := ⟨w.heap.size + 1 + 1, 0, none⟩) (by show w.heap.size ≤ w.heap.size + 1 + 1; omega) v))
                by_cases hp0 : p < 0
                · have hpi : ¬ (p ≥ 0) := by omega
                  have HP0 := Lib.hid hp0
                  by_cases hq0 : q < 0
                  · have HQ0 := Lib.hid hq0
                    by_cases hqp : q < p
                    · clear hp0
                      go_wp2_with fail
                      (with_reducible refine (c_l1SubT (p := k) (RdSig.mk (RI.ext HS.out hE9w)) HO59.out.ri HO59.out.cap HTX.out (by have := HNX.out; omega)).mono ?_)
                      rintro e w10 ⟨A10, n10, c10, rfl, hO10, hE10⟩
                      have HU10 := Lib.hid (HU9.out.ext hE10)
                      have HR10 := Lib.hid (HR9.out.ext hE10)
                      have HO10 := Lib.hid hO10
                      clear hO10 hs0 hs1 hs2 hf2 hE9w HNO
                      have HT9 := Lib.hid (show OwI w10 _ A10 n10 c10 (subT ar X k).flat from HO10.out)
                      cases hm : decide (q ∈ (subT ar X k).flat) with
                      | true =>
                        have HM := Lib.hid hm
                        clear hm
                        go_wp2_with fail
                        (with_reducible refine (c_l1Has' (x := q) HM.out (RdI.mk HT9.out.ri)).mono ?_)
                        rintro e w11 ⟨rfl, hE11⟩
                        obtain ⟨hE11w, _, _, _, hs2, hf2⟩ := HU10.out.ext hE11
                        go_wp2_with fail
                        refine bodyPost_ret (v := .tuple #[.agg #[.slice none 0 0], .bool false]) (by simp [results, Try.results73, go_sem, hs2, hf2]) rfl ?_
                        exact NewUn.no (Ext.set hE11w (p := ⟨w.heap.size + 1 + 1, 0, none⟩) (by show w.heap.size ≤ w.heap.size + 1 + 1; omega) _)
                      | false =>
                        have HM := Lib.hid hm
                        have HBI := Lib.hid (show BindA ar τ q (subT ar X k).flat from bind_of HTY.out HTX.out HFY.out HFX.out HQK.out HPK.out HQ0.out (by have := HM.out; simpa using this))
                        obtain ⟨kk, hkk⟩ : ∃ kk : Nat, -1 - q = (kk : Int) := Int.eq_ofNat_of_zero_le (by omega)
                        have hkk24 : kk < 24 := by omega
                        have HIK := Lib.hid (show q = -1 - (kk : Int) by omega)
                        have HBK := Lib.hid (show BindA ar τ (-1 - (kk : Int)) (subT ar X k).flat by have := HBI.out; rwa [HIK.out] at this)
                        have hwv : IntKind.i64.wrap (-1 - q) = (kk : Int) := by rw [hkk]; exact IntWalk.i64_in _ (by omega)
                        clear hm hkk
                        go_wp2_with fail
                        (with_reducible refine (c_l1Has' (x := q) HM.out (RdI.mk HT9.out.ri)).mono ?_)
                        rintro e w11 ⟨rfl, hE11⟩
                        have HU11 := Lib.hid (HU10.out.ext hE11)
                        have HR11 := Lib.hid (HR10.out.ext hE11)
                        have HT11 := Lib.hid (HT9.out.ext hE11)
                        obtain ⟨hE11w, _, hs1, _, _, _⟩ := HU11.out
                        go_wp2_with fail
                        (with_reducible refine (c_l5Bind (k := kk) (RdSub.mk HR11.out.rsg) HT11.out.ri hkk24 HBK.out HP.out).mono ?_)
                        rintro e w12 ⟨A12, n12, c12, b12, rfl, hR12, hE12⟩
                        have HU12 := Lib.hid (HU11.out.ext hE12)
                        have HR12 := Lib.hid hR12
                        have HW11 := Lib.hid HU11.out.lt
                        clear hR12
                        obtain ⟨hE12w, _, hr1, hq1, hr2, hq2⟩ := HU12.out
                        have hlt12 := HU12.out.lt
                        have hlt13 : w.heap.size + 1 < w12.heap.size := by omega
                        cases b12 with
                        | false =>
                          have hcz : ((w12.setCell ⟨w.heap.size + 1 + 1, 0, none⟩ (.slice none 0 0)).alloc (.cells #[.slice A12 n12 c12] 55)).cell? ⟨w.heap.size + 1 + 1, 0, none⟩ = some (.slice none 0 0) := (World.cell?_alloc_past _ _ _ (by simp; omega)).trans (World.cell?_setCell_same _ _ _ hr2)
                          go_wp2_with fail
                          refine bodyPost_ret (v := .tuple #[.agg #[.slice none 0 0], .bool false]) (by simp [results, Try.results73, go_sem, hcz]) rfl ?_
                          exact NewUn.no (by first | exact (Ext.set hE12w (p := ⟨w.heap.size + 1 + 1, 0, none⟩) (by show w.heap.size ≤ w.heap.size + 1 + 1; omega) _).alloc _ | exact Ext.set (hE12w.alloc _) (p := ⟨w.heap.size + 1 + 1, 0, none⟩) (by show w.heap.size ≤ w.heap.size + 1 + 1; omega) _)
                        | true =>
                          obtain ⟨hR13, hl60⟩ := HR12.out rfl
                          have HLT := Lib.hid (Nat.lt_of_lt_of_le (HBK.out.cnt HI.out HP.out.1) HK.out)
                          have HSB := Lib.hid (HBK.out.sub HP.out hl60)
                          have HIB := Lib.hid (HBK.out.idm HI.out)
                          have HNE := Lib.hid fun (o : Obj) => HU12.out.next (c2 := c12) (hR13.lower (lo' := w.heap.size + 1 + 1 + 1) HW11.out) o
                          clear hR13 hl60
                          go_wp2_with fail
                          go_roundg (fcnt (bindL τ (-1 - (kk : Int)) (subT ar X k).flat 24))
                          case measure => exact HLT.out
                          case rel => exact ⟨A12, n12, c12, _, Lib.hid (HNE.out _).1, Lib.hid (HNE.out _).2, HSB, HIB, Lib.hid (Nat.le_refl _)⟩
                    · clear hp0
                      clear hs0 hs1 hs2 hf2 hE9w HNO
                      have HT9 := Lib.hid (show OwI w9 _ A9' n9' c9' (subT ar Y k).flat from HO9.out)
                      cases hm : decide (p ∈ (subT ar Y k).flat) with
                      | true =>
                        have HM := Lib.hid hm
                        clear hm
                        go_wp2_with fail
                        (with_reducible refine (c_l1Has' (x := p) HM.out (RdI.mk HT9.out.ri)).mono ?_)
                        rintro e w11 ⟨rfl, hE11⟩
                        obtain ⟨hE11w, _, _, _, hs2, hf2⟩ := HU9.out.ext hE11
                        go_wp2_with fail
                        refine bodyPost_ret (v := .tuple #[.agg #[.slice none 0 0], .bool false]) (by simp [results, Try.results73, go_sem, hs2, hf2]) rfl ?_
                        exact NewUn.no (Ext.set hE11w (p := ⟨w.heap.size + 1 + 1, 0, none⟩) (by show w.heap.size ≤ w.heap.size + 1 + 1; omega) _)
                      | false =>
                        have HM := Lib.hid hm
                        have HBI := Lib.hid (show BindA ar τ p (subT ar Y k).flat from bind_of HTX.out HTY.out HFX.out HFY.out HPK.out HQK.out HP0.out (by have := HM.out; simpa using this))
                        obtain ⟨kk, hkk⟩ : ∃ kk : Nat, -1 - p = (kk : Int) := Int.eq_ofNat_of_zero_le (by omega)
                        have hkk24 : kk < 24 := by omega
                        have HIK := Lib.hid (show p = -1 - (kk : Int) by omega)
                        have HBK := Lib.hid (show BindA ar τ (-1 - (kk : Int)) (subT ar Y k).flat by have := HBI.out; rwa [HIK.out] at this)
                        have hwv : IntKind.i64.wrap (-1 - p) = (kk : Int) := by rw [hkk]; exact IntWalk.i64_in _ (by omega)
                        clear hm hkk
                        go_wp2_with fail
                        (with_reducible refine (c_l1Has' (x := p) HM.out (RdI.mk HT9.out.ri)).mono ?_)
                        rintro e w11 ⟨rfl, hE11⟩
                        have HU11 := Lib.hid (HU9.out.ext hE11)
                        have HR11 := Lib.hid (HR9.out.ext hE11)
                        have HT11 := Lib.hid (HT9.out.ext hE11)
                        obtain ⟨hE11w, _, hs1, _, _, _⟩ := HU11.out
                        go_wp2_with fail
                        (with_reducible refine (c_l5Bind (k := kk) (RdSub.mk HR11.out.rsg) HT11.out.ri hkk24 HBK.out HP.out).mono ?_)
                        rintro e w12 ⟨A12, n12, c12, b12, rfl, hR12, hE12⟩
                        have HU12 := Lib.hid (HU11.out.ext hE12)
                        have HR12 := Lib.hid hR12
                        have HW11 := Lib.hid HU11.out.lt
                        clear hR12
                        obtain ⟨hE12w, _, hr1, hq1, hr2, hq2⟩ := HU12.out
                        have hlt12 := HU12.out.lt
                        have hlt13 : w.heap.size + 1 < w12.heap.size := by omega
                        cases b12 with
                        | false =>
                          have hcz : ((w12.setCell ⟨w.heap.size + 1 + 1, 0, none⟩ (.slice none 0 0)).alloc (.cells #[.slice A12 n12 c12] 55)).cell? ⟨w.heap.size + 1 + 1, 0, none⟩ = some (.slice none 0 0) := (World.cell?_alloc_past _ _ _ (by simp; omega)).trans (World.cell?_setCell_same _ _ _ hr2)
                          go_wp2_with fail
                          refine bodyPost_ret (v := .tuple #[.agg #[.slice none 0 0], .bool false]) (by simp [results, Try.results73, go_sem, hcz]) rfl ?_
                          exact NewUn.no (by first | exact (Ext.set hE12w (p := ⟨w.heap.size + 1 + 1, 0, none⟩) (by show w.heap.size ≤ w.heap.size + 1 + 1; omega) _).alloc _ | exact Ext.set (hE12w.alloc _) (p := ⟨w.heap.size + 1 + 1, 0, none⟩) (by show w.heap.size ≤ w.heap.size + 1 + 1; omega) _)
                        | true =>
                          obtain ⟨hR13, hl60⟩ := HR12.out rfl
                          have HLT := Lib.hid (Nat.lt_of_lt_of_le (HBK.out.cnt HI.out HP.out.1) HK.out)
                          have HSB := Lib.hid (HBK.out.sub HP.out hl60)
                          have HIB := Lib.hid (HBK.out.idm HI.out)
                          have HNE := Lib.hid fun (o : Obj) => HU12.out.next (c2 := c12) (hR13.lower (lo' := w.heap.size + 1 + 1 + 1) HW11.out) o
                          clear hR13 hl60
                          go_wp2_with fail
                          go_roundg (fcnt (bindL τ (-1 - (kk : Int)) (subT ar Y k).flat 24))
                          case measure => exact HLT.out
                          case rel => exact ⟨A12, n12, c12, _, Lib.hid (HNE.out _).1, Lib.hid (HNE.out _).2, HSB, HIB, Lib.hid (Nat.le_refl _)⟩
                  · clear hp0
                    clear hs0 hs1 hs2 hf2 hE9w HNO
                    have HT9 := Lib.hid (show OwI w9 _ A9' n9' c9' (subT ar Y k).flat from HO9.out)
                    cases hm : decide (p ∈ (subT ar Y k).flat) with
                    | true =>
                      have HM := Lib.hid hm
                      clear hm
                      go_wp2_with fail
                      (with_reducible refine (c_l1Has' (x := p) HM.out (RdI.mk HT9.out.ri)).mono ?_)
                      rintro e w11 ⟨rfl, hE11⟩
                      obtain ⟨hE11w, _, _, _, hs2, hf2⟩ := HU9.out.ext hE11
                      go_wp2_with fail
                      refine bodyPost_ret (v := .tuple #[.agg #[.slice none 0 0], .bool false]) (by simp [results, Try.results73, go_sem, hs2, hf2]) rfl ?_
                      exact NewUn.no (Ext.set hE11w (p := ⟨w.heap.size + 1 + 1, 0, none⟩) (by show w.heap.size ≤ w.heap.size + 1 + 1; omega) _)
                    | false =>
                      have HM := Lib.hid hm
                      have HBI := Lib.hid (show BindA ar τ p (subT ar Y k).flat from bind_of HTX.out HTY.out HFX.out HFY.out HPK.out HQK.out HP0.out (by have := HM.out; simpa using this))
                      obtain ⟨kk, hkk⟩ : ∃ kk : Nat, -1 - p = (kk : Int) := Int.eq_ofNat_of_zero_le (by omega)
                      have hkk24 : kk < 24 := by omega
                      have HIK := Lib.hid (show p = -1 - (kk : Int) by omega)
                      have HBK := Lib.hid (show BindA ar τ (-1 - (kk : Int)) (subT ar Y k).flat by have := HBI.out; rwa [HIK.out] at this)
                      have hwv : IntKind.i64.wrap (-1 - p) = (kk : Int) := by rw [hkk]; exact IntWalk.i64_in _ (by omega)
                      clear hm hkk
                      go_wp2_with fail
                      (with_reducible refine (c_l1Has' (x := p) HM.out (RdI.mk HT9.out.ri)).mono ?_)
                      rintro e w11 ⟨rfl, hE11⟩
                      have HU11 := Lib.hid (HU9.out.ext hE11)
                      have HR11 := Lib.hid (HR9.out.ext hE11)
                      have HT11 := Lib.hid (HT9.out.ext hE11)
                      obtain ⟨hE11w, _, hs1, _, _, _⟩ := HU11.out
                      go_wp2_with fail
                      (with_reducible refine (c_l5Bind (k := kk) (RdSub.mk HR11.out.rsg) HT11.out.ri hkk24 HBK.out HP.out).mono ?_)
                      rintro e w12 ⟨A12, n12, c12, b12, rfl, hR12, hE12⟩
                      have HU12 := Lib.hid (HU11.out.ext hE12)
                      have HR12 := Lib.hid hR12
                      have HW11 := Lib.hid HU11.out.lt
                      clear hR12
                      obtain ⟨hE12w, _, hr1, hq1, hr2, hq2⟩ := HU12.out
                      have hlt12 := HU12.out.lt
                      have hlt13 : w.heap.size + 1 < w12.heap.size := by omega
                      cases b12 with
                      | false =>
                        have hcz : ((w12.setCell ⟨w.heap.size + 1 + 1, 0, none⟩ (.slice none 0 0)).alloc (.cells #[.slice A12 n12 c12] 55)).cell? ⟨w.heap.size + 1 + 1, 0, none⟩ = some (.slice none 0 0) := (World.cell?_alloc_past _ _ _ (by simp; omega)).trans (World.cell?_setCell_same _ _ _ hr2)
                        go_wp2_with fail
                        refine bodyPost_ret (v := .tuple #[.agg #[.slice none 0 0], .bool false]) (by simp [results, Try.results73, go_sem, hcz]) rfl ?_
                        exact NewUn.no (by first | exact (Ext.set hE12w (p := ⟨w.heap.size + 1 + 1, 0, none⟩) (by show w.heap.size ≤ w.heap.size + 1 + 1; omega) _).alloc _ | exact Ext.set (hE12w.alloc _) (p := ⟨w.heap.size + 1 + 1, 0, none⟩) (by show w.heap.size ≤ w.heap.size + 1 + 1; omega) _)
                      | true =>
                        obtain ⟨hR13, hl60⟩ := HR12.out rfl
                        have HLT := Lib.hid (Nat.lt_of_lt_of_le (HBK.out.cnt HI.out HP.out.1) HK.out)
                        have HSB := Lib.hid (HBK.out.sub HP.out hl60)
                        have HIB := Lib.hid (HBK.out.idm HI.out)
                        have HNE := Lib.hid fun (o : Obj) => HU12.out.next (c2 := c12) (hR13.lower (lo' := w.heap.size + 1 + 1 + 1) HW11.out) o
                        clear hR13 hl60
                        go_wp2_with fail
                        go_roundg (fcnt (bindL τ (-1 - (kk : Int)) (subT ar Y k).flat 24))
                        case measure => exact HLT.out
                        case rel => exact ⟨A12, n12, c12, _, Lib.hid (HNE.out _).1, Lib.hid (HNE.out _).2, HSB, HIB, Lib.hid (Nat.le_refl _)⟩
                · have hpi : p ≥ 0 := by omega
                  by_cases hq0 : q < 0
                  · have hqi : ¬ (q ≥ 0) := by omega
                    have HQ0 := Lib.hid hq0
                    clear hp0
                    go_wp2_with fail
                    (with_reducible refine (c_l1SubT (p := k) (RdSig.mk (RI.ext HS.out hE9w)) HO59.out.ri HO59.out.cap HTX.out (by have := HNX.out; omega)).mono ?_)
                    rintro e w10 ⟨A10, n10, c10, rfl, hO10, hE10⟩
                    have HU10 := Lib.hid (HU9.out.ext hE10)
                    have HR10 := Lib.hid (HR9.out.ext hE10)
                    have HO10 := Lib.hid hO10
                    clear hO10 hs0 hs1 hs2 hf2 hE9w HNO
                    have HT9 := Lib.hid (show OwI w10 _ A10 n10 c10 (subT ar X k).flat from HO10.out)
                    cases hm : decide (q ∈ (subT ar X k).flat) with
                    | true =>
                      have HM := Lib.hid hm
                      clear hm
                      go_wp2_with fail
                      (with_reducible refine (c_l1Has' (x := q) HM.out (RdI.mk HT9.out.ri)).mono ?_)
                      rintro e w11 ⟨rfl, hE11⟩
                      obtain ⟨hE11w, _, _, _, hs2, hf2⟩ := HU10.out.ext hE11
                      go_wp2_with fail
                      refine bodyPost_ret (v := .tuple #[.agg #[.slice none 0 0], .bool false]) (by simp [results, Try.results73, go_sem, hs2, hf2]) rfl ?_
                      exact NewUn.no (Ext.set hE11w (p := ⟨w.heap.size + 1 + 1, 0, none⟩) (by show w.heap.size ≤ w.heap.size + 1 + 1; omega) _)
                    | false =>
                      have HM := Lib.hid hm
                      have HBI := Lib.hid (show BindA ar τ q (subT ar X k).flat from bind_of HTY.out HTX.out HFY.out HFX.out HQK.out HPK.out HQ0.out (by have := HM.out; simpa using this))
                      obtain ⟨kk, hkk⟩ : ∃ kk : Nat, -1 - q = (kk : Int) := Int.eq_ofNat_of_zero_le (by omega)
                      have hkk24 : kk < 24 := by omega
                      have HIK := Lib.hid (show q = -1 - (kk : Int) by omega)
                      have HBK := Lib.hid (show BindA ar τ (-1 - (kk : Int)) (subT ar X k).flat by have := HBI.out; rwa [HIK.out] at this)
                      have hwv : IntKind.i64.wrap (-1 - q) = (kk : Int) := by rw [hkk]; exact IntWalk.i64_in _ (by omega)
                      clear hm hkk
                      go_wp2_with fail
                      (with_reducible refine (c_l1Has' (x := q) HM.out (RdI.mk HT9.out.ri)).mono ?_)
                      rintro e w11 ⟨rfl, hE11⟩
                      have HU11 := Lib.hid (HU10.out.ext hE11)
                      have HR11 := Lib.hid (HR10.out.ext hE11)
                      have HT11 := Lib.hid (HT9.out.ext hE11)
                      obtain ⟨hE11w, _, hs1, _, _, _⟩ := HU11.out
                      go_wp2_with fail
                      (with_reducible refine (c_l5Bind (k := kk) (RdSub.mk HR11.out.rsg) HT11.out.ri hkk24 HBK.out HP.out).mono ?_)
                      rintro e w12 ⟨A12, n12, c12, b12, rfl, hR12, hE12⟩
                      have HU12 := Lib.hid (HU11.out.ext hE12)
                      have HR12 := Lib.hid hR12
                      have HW11 := Lib.hid HU11.out.lt
                      clear hR12
                      obtain ⟨hE12w, _, hr1, hq1, hr2, hq2⟩ := HU12.out
                      have hlt12 := HU12.out.lt
                      have hlt13 : w.heap.size + 1 < w12.heap.size := by omega
                      cases b12 with
                      | false =>
                        have hcz : ((w12.setCell ⟨w.heap.size + 1 + 1, 0, none⟩ (.slice none 0 0)).alloc (.cells #[.slice A12 n12 c12] 55)).cell? ⟨w.heap.size + 1 + 1, 0, none⟩ = some (.slice none 0 0) := (World.cell?_alloc_past _ _ _ (by simp; omega)).trans (World.cell?_setCell_same _ _ _ hr2)
                        go_wp2_with fail
                        refine bodyPost_ret (v := .tuple #[.agg #[.slice none 0 0], .bool false]) (by simp [results, Try.results73, go_sem, hcz]) rfl ?_
                        exact NewUn.no (by first | exact (Ext.set hE12w (p := ⟨w.heap.size + 1 + 1, 0, none⟩) (by show w.heap.size ≤ w.heap.size + 1 + 1; omega) _).alloc _ | exact Ext.set (hE12w.alloc _) (p := ⟨w.heap.size + 1 + 1, 0, none⟩) (by show w.heap.size ≤ w.heap.size + 1 + 1; omega) _)
                      | true =>
                        obtain ⟨hR13, hl60⟩ := HR12.out rfl
                        have HLT := Lib.hid (Nat.lt_of_lt_of_le (HBK.out.cnt HI.out HP.out.1) HK.out)
                        have HSB := Lib.hid (HBK.out.sub HP.out hl60)
                        have HIB := Lib.hid (HBK.out.idm HI.out)
                        have HNE := Lib.hid fun (o : Obj) => HU12.out.next (c2 := c12) (hR13.lower (lo' := w.heap.size + 1 + 1 + 1) HW11.out) o
                        clear hR13 hl60
                        go_wp2_with fail
                        go_roundg (fcnt (bindL τ (-1 - (kk : Int)) (subT ar X k).flat 24))
                        case measure => exact HLT.out
                        case rel => exact ⟨A12, n12, c12, _, Lib.hid (HNE.out _).1, Lib.hid (HNE.out _).2, HSB, HIB, Lib.hid (Nat.le_refl _)⟩
                  · have hqi : q ≥ 0 := by omega
                    clear hp0 hq0
                    go_wp2_with fail
                    refine bodyPost_ret (v := .tuple #[.agg #[.slice none 0 0], .bool false]) (by simp [results, Try.results73, go_sem, hs2, hf2]) rfl ?_
                    exact HNO.out _
            · exact absurd (pre_end HTY.out HTX.out HPR.out.symm (by have := HNY.out; omega) (by have := HNX.out; omega)) (fun e => by have h1 := HNX.out; have h2 := HNY.out; rw [e] at h2; omega)
          · obtain rfl : k = n5 := by omega
            have HEQ := Lib.hid (pre_end HTX.out HTY.out HPR.out HNX.out.symm (by have := HNY.out; omega))
            have hd5 : decide ((k : Int) < (k : Int)) = false := by simp
            go_wp2_with fail
            go_quiet (fail)
            obtain ⟨w8, hw8⟩ : ∃ w8, w8 = wr.drewN nq := ⟨_, rfl⟩
            have hE8 : Ext wr w8 := by rw [hw8]; exact (Ext.refl wr).drewN nq
            rw [← hw8]
            clear hw8
            have hE68 := Ext.trans HE7.out hE8
            have HR8 := Lib.hid (HR6.out.ext hE68)
            obtain ⟨hE8w, _, hs1, _, hs2, hf2⟩ := HU6.out.ext hE68
            go_wp2_with fail
            refine bodyPost_ret (v := .tuple #[.agg #[.slice A9 n9 c9], .bool true]) (by simp [results, Try.results73, go_sem, hs2, hf2]) rfl ?_
            exact ⟨A9, n9, c9, true, rfl, fun _ => ⟨τ, (HR8.out.set (by show w.heap.size + 1 + 1 < w.heap.size + 1 + 1 + 1; omega) _).rsg, HP.out, by rw [← HX.out.1, ← HY.out.1]; exact HEQ.out⟩, Ext.set hE8w (by show w.heap.size ≤ w.heap.size + 1 + 1; omega) _⟩
end Go.Proofs.Ytempekmenkeigaa
