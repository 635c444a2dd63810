/- The reference: parts of terms, and where arguments begin. -/
import Derived.Test.YtccahngnnfohcaaStp
namespace Go.Proofs.Ytccahngnnfohcaa
open Go.RowKit
set_option linter.unusedSimpArgs false
set_option linter.unusedVariables false

theorem c_l1ThereA {v : Value} {t : List Int} {x : Int} {w : World} (hx : 0 ≤ x ∧ x < t.length) (h1 : RdI w v t) :
    Calls Try.prog 78 #[v, .int .i64 x] w fun e w' => e = .returned (.bool true) ∧ Ext w w' := by
  obtain ⟨A, n, c, rfl, ha⟩ := h1
  have hn := ha.le
  have hl := ha.len
  have h : 0 ≤ x ∧ x ≤ (n : Int) - 1 := by omega
  go_enter Try.func78, Try.ntmps78
  go_wp2_with fail
  (with_reducible refine (q_l1In_t h).mono ?_)
  rintro e w2 ⟨rfl, rfl⟩
  go_wp2
  go_ret
  exact ⟨rfl, Ext.refl _⟩
theorem c_sTermOkA {v0 v1 : Value} {ar t : List Int} {w : World} (ht : TermP ar t) (h0 : RdSig w v0 ar) (h1 : RdI w v1 t) :
    Calls Try.prog 77 #[v0, v1] w fun e w' => e = .returned (.bool true) ∧ Ext w w' := by rw [← termOk_iff.2 ht]; exact c_sTermOk h0 h1
set_option maxRecDepth 100000 in
set_option maxHeartbeats 2000000 in
theorem c_SubAtA {v0 : Value} {ar t us : List Int} {p : Nat} {A : Option Addr} {n c : Nat} {w : World} (hu : us = (subT ar t p).flat) (h0 : RdSig w v0 ar) (h1 : RI w A n t) (hc : n ≤ c ∧ c ≤ 9223372036854775807) (ht : TermP ar t) (hp : p < t.length) :
    Calls Try.prog 38 #[v0, .slice A n c, .int .i64 (p : Int)] w (NewI w us) := by
  subst hu
  obtain ⟨D, q, l, rfl, hd⟩ := h0
  have HD := Lib.hid hd
  have HA := Lib.hid h1
  have HT := Lib.hid ht
  have HP := Lib.hid hp
  have HX := Lib.hid (show (0 : Int) ≤ (p : Int) ∧ (p : Int) < t.length by omega)
  clear hd h1 ht hp
  go_enter Try.func38, Try.ntmps38
  go_wp2_with fail
  (with_reducible refine (c_sTermOkA HT.out (RdSig.mk (RI.ext HD.out (by (repeat' (first | (with_reducible exact Ext.refl _) | (with_reducible assumption) | (with_reducible refine Ext.alloc ?_ _) | (with_reducible refine Ext.set ?_ ?_ _) | (with_reducible refine Ext.drewN ?_ _) | (with_reducible refine Ext.drew ?_) | (with_reducible refine Ext.trans ?_ (by with_reducible assumption)) | go_size))))) (RdI.mk (RI.ext HA.out (by (repeat' (first | (with_reducible exact Ext.refl _) | (with_reducible assumption) | (with_reducible refine Ext.alloc ?_ _) | (with_reducible refine Ext.set ?_ ?_ _) | (with_reducible refine Ext.drewN ?_ _) | (with_reducible refine Ext.drew ?_) | (with_reducible refine Ext.trans ?_ (by with_reducible assumption)) | go_size)))))).mono ?_)
  rintro e w2 ⟨rfl, hE2⟩
  go_wp2_with fail
  (with_reducible refine (c_l1ThereA HX.out (RdI.mk (RI.ext HA.out (by (repeat' (first | (with_reducible exact Ext.refl _) | (with_reducible assumption) | (with_reducible refine Ext.alloc ?_ _) | (with_reducible refine Ext.set ?_ ?_ _) | (with_reducible refine Ext.drewN ?_ _) | (with_reducible refine Ext.drew ?_) | (with_reducible refine Ext.trans ?_ (by with_reducible assumption)) | go_size)))))).mono ?_)
  rintro e w3 ⟨rfl, hE3⟩
  have hb3 : w3.cell? ⟨w.heap.size, 0, none⟩ = some (.slice D q l) := Ext.keep hE3 (Ext.keep hE2 (by simp [go_sem]))
  go_wp2_with fail
  (with_reducible refine (c_l1SubT (RdSig.mk (RI.ext HD.out (by (repeat' (first | (with_reducible exact Ext.refl _) | (with_reducible assumption) | (with_reducible refine Ext.alloc ?_ _) | (with_reducible refine Ext.set ?_ ?_ _) | (with_reducible refine Ext.drewN ?_ _) | (with_reducible refine Ext.drew ?_) | (with_reducible refine Ext.trans ?_ (by with_reducible assumption)) | go_size))))) (RI.ext HA.out (by (repeat' (first | (with_reducible exact Ext.refl _) | (with_reducible assumption) | (with_reducible refine Ext.alloc ?_ _) | (with_reducible refine Ext.set ?_ ?_ _) | (with_reducible refine Ext.drewN ?_ _) | (with_reducible refine Ext.drew ?_) | (with_reducible refine Ext.trans ?_ (by with_reducible assumption)) | go_size)))) hc HT.out HP.out).mono ?_)
  rintro e w4 ⟨A4, n4, c4, rfl, hO4, hE4⟩
  have hs2 := hE2.size
  have hs3 := hE3.size
  simp only [World.size_alloc] at hs2
  have HO4 := Lib.hid (hO4.lower (B' := w.heap.size) (by omega))
  clear hO4
  go_wp2
  go_ret
  exact ⟨_, _, _, rfl, HO4.out, by (repeat' (first | (with_reducible exact Ext.refl _) | (with_reducible assumption) | (with_reducible refine Ext.alloc ?_ _) | (with_reducible refine Ext.set ?_ ?_ _) | (with_reducible refine Ext.drewN ?_ _) | (with_reducible refine Ext.drew ?_) | (with_reducible refine Ext.trans ?_ (by with_reducible assumption)) | go_size))⟩
theorem flatL_lenA : ∀ (us : List Tm), us.length ≤ (flatL us).length
  | [] => Nat.zero_le _
  | a :: us => by rw [flatL_cons, List.length_cons, List.length_append]; have := flat_pos a; have := flatL_lenA us; omega
set_option maxRecDepth 100000 in
set_option maxHeartbeats 4000000 in
theorem c_l1ArgsA {v0 v1 : Value} {ar t rest : List Int} {p : Nat} {x : Int} {us : List Tm} {w : World} (h0 : RdSig w v0 ar) (h1 : RdI w v1 t) (ht : TermP ar t) (hu : (Tm.node x us).Ok ar) (hd : t.drop p = (Tm.node x us).flat ++ rest) :
    Calls Try.prog 80 #[v0, v1, .int .i64 (p : Int)] w (NewI w (starts (p + 1) us)) := by
  obtain ⟨D, q0, l, rfl, hdd⟩ := h0
  obtain ⟨B, m, d, rfl, hb⟩ := h1
  have hml := hb.len
  have hpl : p < m := by
    have := congrArg List.length hd
    rw [List.length_drop, List.length_append, hml] at this
    have := flat_pos (Tm.node x us)
    omega
  obtain ⟨b, o, y, rfl, hy, hcy⟩ := RI.at_ hb hpl
  have hxy : y = x := by
    have h5 : (t.drop p)[0]? = some x := by rw [hd, flat_node]; rfl
    rw [List.getElem?_drop, Nat.add_zero, hy] at h5
    exact Option.some.inj h5
  subst hxy
  obtain ⟨hok, hol⟩ := Ok_node.1 hu
  have hx24 := ht.2.2.1 y (List.mem_of_getElem? hy)
  have hm60 : m ≤ 60 := by rw [← hml]; exact ht.2.1.2
  have hpl1 : p + 1 + (flatL us).length ≤ m := by
    have := congrArg List.length hd
    rw [List.length_drop, List.length_append, hml, flat_node, List.length_cons] at this
    omega
  have hus3 : us.length ≤ (flatL us).length := flatL_lenA us
  have HA := Lib.hid hdd
  have HB := Lib.hid hb
  have HS := Lib.hid ht.1
  have HT := Lib.hid ht.2.2.1
  have HD := Lib.hid hd
  have HAR := Lib.hid (show optI (arS ar y) = (us.length : Int) by rw [arS_arI (by omega), hok]; rfl)
  have HOL := Lib.hid (OkL_iff.1 hol)
  obtain ⟨i0, hii, hiz, his, hib⟩ := info_parts int64_info
  have HML := Lib.hid hml
  clear hdd hb hd hok hol hu ht hy hml
  go_enter Try.func80, Try.ntmps80
  go_wp2_with fail
  obtain ⟨w1, hw1⟩ : ∃ w1, w1 = w.alloc (.cells #[.slice D q0 l] 31) := ⟨_, rfl⟩
  have hb1 : w1.cell? ⟨w.heap.size, 0, none⟩ = some (.slice D q0 l) := by rw [hw1]; simp [go_sem]
  have hz1 : w1.heap.size = w.heap.size + 1 := by rw [hw1]; exact World.size_alloc ..
  have hEa : Ext w w1 := by rw [hw1]; (repeat' (first | (with_reducible exact Ext.refl _) | (with_reducible assumption) | (with_reducible refine Ext.alloc ?_ _) | (with_reducible refine Ext.set ?_ ?_ _) | (with_reducible refine Ext.drewN ?_ _) | (with_reducible refine Ext.drew ?_) | (with_reducible refine Ext.trans ?_ (by with_reducible assumption)) | go_size))
  obtain ⟨wo, hwo⟩ : ∃ wo, wo = w1.alloc (.cells #[] 2) := ⟨_, rfl⟩
  have hE1o : Ext w1 wo := by rw [hwo]; (repeat' (first | (with_reducible exact Ext.refl _) | (with_reducible assumption) | (with_reducible refine Ext.alloc ?_ _) | (with_reducible refine Ext.set ?_ ?_ _) | (with_reducible refine Ext.drewN ?_ _) | (with_reducible refine Ext.drew ?_) | (with_reducible refine Ext.trans ?_ (by with_reducible assumption)) | go_size))
  have hb0 : wo.cell? ⟨w.heap.size, 0, none⟩ = some (.slice D q0 l) := Ext.keep hE1o hb1
  have hcy2 : wo.cell? ⟨b, o + p, none⟩ = some (.int .i64 y) := Ext.keep hE1o (Ext.keep hEa hcy)
  have HO0 := Lib.hid (show OwI wo w1.heap.size (some ⟨w1.heap.size, 0, none⟩) 0 0 [] from by rw [hwo]; exact OwI.none0 (Nat.le_refl _))
  rw [← hw1, ← hwo, ← hz1]
  clear hwo hcy hw1 hz1
  go_still_tail 5, (by kernel_rfl)
  change wpList _ _ _ _ _ wo.drew
  have hE1 : Ext w1 wo.drew := hE1o.drew
  go_wp2_with fail
  (with_reducible refine (c_l1Arity' HAR.out (RdSig.mk (RI.ext HA.out (Ext.trans hEa hE1))) HS.out).mono ?_)
  rintro e w2 ⟨rfl, hE2⟩
  have hE12 : Ext w1 w2 := Ext.trans hE1 hE2
  have HO2 := Lib.hid ((HO0.out.ext (show Ext wo wo.drew from (Ext.refl _).drew)).ext hE2)
  clear hb0 hcy2
  go_wp2_with fail
  go_loopw [7, 8, 9] (fun ov nx nn wr => ∃ k : Nat, k ≤ us.length ∧ nn = .int .i64 ((us.length : Int) - k) ∧ (∃ q : Nat, nx = .int .i64 (q : Int) ∧ Hid (q = p + 1 + (flatL (us.take k)).length) ∧ q ≤ m) ∧ (∃ A c, ov = .slice A k c ∧ Hid (OwI wr w1.heap.size A k c (starts (p + 1) (us.take k)))) ∧ Ext w1 wr) (fun _ _ nn _ => (intOf nn).toNat)
  case atStart => exact ⟨0, Nat.zero_le _, by simp, ⟨p + 1, by go_num, Lib.hid (by simp [flatL_nil]), by omega⟩, ⟨_, 0, rfl, Lib.hid (by simpa [starts] using HO2.out)⟩, hE12⟩
  case round =>
    obtain ⟨k, hk, rfl, ⟨q, rfl, hq, hqm⟩, ⟨A1, c1, rfl, hO⟩, hE3⟩ := hrel
    have hb3 : wr.cell? ⟨w.heap.size, 0, none⟩ = some (.slice D q0 l) := Ext.keep hE3 hb1
    by_cases hlt2 : k < us.length
    · obtain ⟨a, hak⟩ : ∃ a, us[k]? = some a := ⟨us[k], List.getElem?_eq_getElem hlt2⟩
      have hda := drop_arg HD.out hak
      rw [← hq.out] at hda
      have hao := HOL.out a (List.mem_of_getElem? hak)
      have hqa := drop_lt hda (flat_pos a)
      rw [HML.out] at hqa
      have hst : starts (p + 1) (us.take (k + 1)) = starts (p + 1) (us.take k) ++ [(q : Int)] := by
        rw [take_snoc hak, starts_append, ← hq.out]; rfl
      have hfk : (flatL (us.take (k + 1))).length = (flatL (us.take k)).length + a.flat.length := by
        rw [take_snoc hak, flatL_append, flatL_cons, flatL_nil, List.append_nil, List.length_append]
      have hql : q + a.flat.length ≤ m := by
        have := congrArg List.length hda
        rw [List.length_drop, List.length_append, HML.out] at this
        omega
      have HDA := Lib.hid hda
      have HEN := Lib.hid (show endS ar t q = ((q + a.flat.length : Nat) : Int) from endS_sub HT.out hao hda)
      have HST := Lib.hid hst
      have HFK := Lib.hid hfk
      have HQT := Lib.hid (show q ≤ t.length by have := HML.out; omega)
      clear hda hao hst hfk hak
      have hkk : (0 : Int) < (us.length : Int) - k := by omega
      go_wp2_with (at_builtin; go_loud (refine wpList_append_lies _ rfl (.tmp 23) (.tmp 25) 22 rfl w1.heap.size 2 i0 (.int .i64 0) 1 8 Try.underlying22 hii hiz his hib rfl (by decide) _ _ _ rfl (OwI.alloc hO.out _).2 ⟨wr.heap.size, 0, none⟩ 1 1 [.int .i64 (q : Int)] rfl rfl (one_cells _ _ _) (one_one _) (by decide) (by unfold maxLen; omega) (by omega) (by have := hE3.size; go_size) _ rfl ?_))
      intro g cap wx hown hg hat hltg
      have hE4 : Ext w1 wx := Ext.grown (hE3.alloc _) hg (fun k' hk' => (hO.out.ob2 k' hk').1)
      have HW := Lib.hid (show OwI wx w1.heap.size (some ⟨g, 0, none⟩) (k + 1) cap (starts (p + 1) (us.take (k + 1))) from ⟨by omega, by rw [HST.out, List.map_append]; exact hown⟩)
      have hb4 : wx.cell? ⟨w.heap.size, 0, none⟩ = some (.slice D q0 l) := Ext.keep hE4 hb1
      have hEwx : Ext w wx := Ext.trans hEa hE4
      clear hown hg hat
      go_wp2_with fail
      (with_reducible refine (c_l1EndT HEN.out (RdSig.mk (RI.ext HA.out (by (repeat' (first | (with_reducible exact Ext.refl _) | (with_reducible assumption) | (with_reducible refine Ext.alloc ?_ _) | (with_reducible refine Ext.set ?_ ?_ _) | (with_reducible refine Ext.drewN ?_ _) | (with_reducible refine Ext.drew ?_) | (with_reducible refine Ext.trans ?_ (by with_reducible assumption)) | go_size))))) (RdI.mk (RI.ext HB.out (by (repeat' (first | (with_reducible exact Ext.refl _) | (with_reducible assumption) | (with_reducible refine Ext.alloc ?_ _) | (with_reducible refine Ext.set ?_ ?_ _) | (with_reducible refine Ext.drewN ?_ _) | (with_reducible refine Ext.drew ?_) | (with_reducible refine Ext.trans ?_ (by with_reducible assumption)) | go_size))))) HS.out HQT.out).mono ?_)
      rintro e w5 ⟨rfl, hE5⟩
      go_wp2_with fail
      go_roundw
      case rel => exact ⟨k + 1, by omega, by go_num, ⟨q + a.flat.length, rfl, Lib.hid (by rw [HFK.out, hq.out]; omega), by omega⟩, ⟨_, _, rfl, Lib.hid (HW.out.ext hE5)⟩, Ext.trans hE4 hE5⟩
      case measure => simp only [intOf]; omega
    · have hkn : k = us.length := by omega
      subst hkn
      go_wp2
      go_ret
      exact ⟨_, _, _, rfl, by have := hO.out.lower (B' := w.heap.size) hEa.size; rwa [List.take_length] at this, Ext.trans hEa hE3⟩
set_option maxRecDepth 100000 in
set_option maxHeartbeats 2000000 in
theorem c_ArgsAtA {v0 v1 : Value} {ar t ss : List Int} {x : Int} {us : List Tm} {w : World} (hss : ss = starts 1 us) (h0 : RdSig w v0 ar) (h1 : RdI w v1 t) (ht : TermP ar t) (hu : (Tm.node x us).Ok ar) (he : t = (Tm.node x us).flat) :
    Calls Try.prog 39 #[v0, v1, .int .i64 0] w (NewI w ss) := by
  subst hss
  obtain ⟨D, q, l, rfl, hd⟩ := h0
  obtain ⟨A, n, c, rfl, ha⟩ := h1
  have HD := Lib.hid hd
  have HA := Lib.hid ha
  have HT := Lib.hid ht
  have HU := Lib.hid hu
  have HE := Lib.hid (show t.drop 0 = (Tm.node x us).flat ++ [] by rw [List.drop_zero, List.append_nil, ← he])
  have HX := Lib.hid (show (0 : Int) ≤ 0 ∧ (0 : Int) < t.length by have := ht.2.1.1; omega)
  clear hd ha ht hu he
  go_enter Try.func39, Try.ntmps39
  go_wp2_with fail
  (with_reducible refine (c_sTermOkA HT.out (RdSig.mk (RI.ext HD.out (by (repeat' (first | (with_reducible exact Ext.refl _) | (with_reducible assumption) | (with_reducible refine Ext.alloc ?_ _) | (with_reducible refine Ext.set ?_ ?_ _) | (with_reducible refine Ext.drewN ?_ _) | (with_reducible refine Ext.drew ?_) | (with_reducible refine Ext.trans ?_ (by with_reducible assumption)) | go_size))))) (RdI.mk (RI.ext HA.out (by (repeat' (first | (with_reducible exact Ext.refl _) | (with_reducible assumption) | (with_reducible refine Ext.alloc ?_ _) | (with_reducible refine Ext.set ?_ ?_ _) | (with_reducible refine Ext.drewN ?_ _) | (with_reducible refine Ext.drew ?_) | (with_reducible refine Ext.trans ?_ (by with_reducible assumption)) | go_size)))))).mono ?_)
  rintro e w2 ⟨rfl, hE2⟩
  go_wp2_with fail
  (with_reducible refine (c_l1ThereA HX.out (RdI.mk (RI.ext HA.out (by (repeat' (first | (with_reducible exact Ext.refl _) | (with_reducible assumption) | (with_reducible refine Ext.alloc ?_ _) | (with_reducible refine Ext.set ?_ ?_ _) | (with_reducible refine Ext.drewN ?_ _) | (with_reducible refine Ext.drew ?_) | (with_reducible refine Ext.trans ?_ (by with_reducible assumption)) | go_size)))))).mono ?_)
  rintro e w3 ⟨rfl, hE3⟩
  have hb3 : w3.cell? ⟨w.heap.size, 0, none⟩ = some (.slice D q l) := Ext.keep hE3 (Ext.keep hE2 (by simp [go_sem]))
  go_wp2_with fail
  (with_reducible refine (show Calls Try.prog 80 #[.agg #[.slice D q l], .slice A n c, .int .i64 0] _ _ from (c_l1ArgsA (p := 0) (RdSig.mk (RI.ext HD.out (by (repeat' (first | (with_reducible exact Ext.refl _) | (with_reducible assumption) | (with_reducible refine Ext.alloc ?_ _) | (with_reducible refine Ext.set ?_ ?_ _) | (with_reducible refine Ext.drewN ?_ _) | (with_reducible refine Ext.drew ?_) | (with_reducible refine Ext.trans ?_ (by with_reducible assumption)) | go_size))))) (RdI.mk (RI.ext HA.out (by (repeat' (first | (with_reducible exact Ext.refl _) | (with_reducible assumption) | (with_reducible refine Ext.alloc ?_ _) | (with_reducible refine Ext.set ?_ ?_ _) | (with_reducible refine Ext.drewN ?_ _) | (with_reducible refine Ext.drew ?_) | (with_reducible refine Ext.trans ?_ (by with_reducible assumption)) | go_size))))) HT.out HU.out HE.out).mono ?_))
  rintro e w4 ⟨A4, n4, c4, rfl, hO4, hE4⟩
  have hs2 := hE2.size
  have hs3 := hE3.size
  simp only [World.size_alloc] at hs2
  have HO4 := Lib.hid (hO4.lower (B' := w.heap.size) (by omega))
  clear hO4
  go_wp2
  go_ret
  exact ⟨_, _, _, rfl, HO4.out, by (repeat' (first | (with_reducible exact Ext.refl _) | (with_reducible assumption) | (with_reducible refine Ext.alloc ?_ _) | (with_reducible refine Ext.set ?_ ?_ _) | (with_reducible refine Ext.drewN ?_ _) | (with_reducible refine Ext.drew ?_) | (with_reducible refine Ext.trans ?_ (by with_reducible assumption)) | go_size))⟩

end Go.Proofs.Ytccahngnnfohcaa
