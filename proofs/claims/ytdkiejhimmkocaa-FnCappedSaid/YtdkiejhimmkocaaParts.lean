/- The reference's functions on places of right terms. -/
import Derived.Test.YtdkiejhimmkocaaArgs
import Derived.Test.YtdkiejhimmkocaaTermOk
namespace Go.Proofs.Ytdkiejhimmkocaa
open Go.RowKit
set_option linter.unusedSimpArgs false
set_option linter.unusedVariables false

/-- A slice of lists. -/
def RS (w : World) (A : Option Addr) (n : Nat) (xss : List (List Int)) : Prop :=
  (xss.length = n ∧ n ≤ 4194304) ∧ ∀ (j : Nat) (xs : List Int), xss[j]? = some xs → ∃ b o v, A = some ⟨b, o, none⟩ ∧ w.cell? ⟨b, o + j, none⟩ = some v ∧ RdIc w v xs
theorem RS.ext {w w' : World} {A : Option Addr} {n : Nat} {xss : List (List Int)} (h : RS w A n xss) (k : Ext w w') : RS w' A n xss :=
  ⟨h.1, fun j xs hx => by
    obtain ⟨b, o, v, e, h1, h2⟩ := h.2 j xs hx
    exact ⟨b, o, v, e, Ext.keep k h1, h2.ext k⟩⟩
theorem RS.at_ {w : World} {A : Option Addr} {n j : Nat} {us : List Tm} {a : Tm} (h : RS w A n (us.map Tm.flat)) (ha : us[j]? = some a) :
    ∃ b o A' m' c', A = some ⟨b, o, none⟩ ∧ w.cell? ⟨b, o + j, none⟩ = some (.slice A' m' c') ∧ (m' ≤ c' ∧ c' ≤ 9223372036854775807) ∧ RI w A' m' a.flat := by
  obtain ⟨b, o, v, e, h1, A', m', c', rfl, h2, h3⟩ := h.2 j a.flat (by rw [List.getElem?_map, ha]; rfl)
  exact ⟨b, o, A', m', c', e, h1, h2, h3⟩
/-- A slice of lists of the call's own; the lists themselves lie in memory of before. -/
def OwS (w0 w : World) (B : Nat) (A : Option Addr) (n c : Nat) (xss : List (List Int)) : Prop :=
  n ≤ 4194304 ∧ ∃ vs, w.ownsRow B 27 1 (.slice A n c) n vs ∧ xss.length = n ∧ ∀ (j : Nat) (v : Value) (xs : List Int), vs[j]? = some v → xss[j]? = some xs → RdIc w0 v xs
section
variable {w0 w w' : World} {B : Nat} {A : Option Addr} {n c : Nat} {xss : List (List Int)}
theorem OwS.rs (h : OwS w0 w B A n c xss) (k : Ext w0 w) : RS w A n xss := by
  obtain ⟨hn, vs, ho, hl, hr⟩ := h
  refine ⟨⟨hl, hn⟩, fun j xs hx => ?_⟩
  have hj : j < n := by have := (List.getElem?_eq_some_iff.1 hx).1; omega
  have hvl : vs.length = n := by have := ho.1; simpa using this
  obtain ⟨g, cap, hv, _, hlt⟩ := World.ownsRow.form ho (by omega)
  cases hv
  have hc := World.ownsRow.cellAt ho j (by omega)
  have hvj : vs[j]? = some (vs[j]'(by omega)) := List.getElem?_eq_getElem (by omega)
  exact ⟨g, 0, _, rfl, by rw [Nat.zero_add, hc, hvj], (hr j _ xs hvj hx).ext k⟩
theorem OwS.ext (h : OwS w0 w B A n c xss) (k : Ext w w') : OwS w0 w' B A n c xss := by
  obtain ⟨hn, vs, ho, hl, hr⟩ := h
  refine ⟨hn, vs, ⟨ho.1, ?_⟩, hl, hr⟩
  rcases ho.2 with h2 | ⟨g, cap, cur, hv, hg, hh, r⟩
  · exact .inl h2
  · exact .inr ⟨g, cap, cur, hv, hg, (k.block g (Array.getElem?_eq_some_iff.1 hh).1).trans hh, r⟩
end
theorem one_slice (A : Option Addr) (n c : Nat) : ∀ u ∈ [Value.slice A n c], u.oneCell' = true := by intro u hu; simp at hu; subst hu; rfl
theorem OwS.step {w0 wx : World} {B : Nat} {g k cap : Nat} {xss : List (List Int)} {v : Value} {xs : List Int} {vs : List Value} (hn : k + 1 ≤ 4194304) (hl : xss.length = k)
    (hr : ∀ (j : Nat) (v : Value) (xs : List Int), vs[j]? = some v → xss[j]? = some xs → RdIc w0 v xs) (hvl : vs.length = k) (hv : RdIc w0 v xs)
    (hown : wx.ownsRow B 27 1 (.slice (some ⟨g, 0, none⟩) (k + 1) cap) (k + 1) (vs ++ [v])) : OwS w0 wx B (some ⟨g, 0, none⟩) (k + 1) cap (xss ++ [xs]) := by
  refine ⟨hn, _, hown, by simp [hl], fun j u ys h1 h2 => ?_⟩
  rcases Nat.lt_or_ge j k with h | h
  · rw [List.getElem?_append_left (by omega)] at h1
    rw [List.getElem?_append_left (by omega)] at h2
    exact hr j u ys h1 h2
  · have hj : j = k := by have := (List.getElem?_eq_some_iff.1 h1).1; simp [hvl] at this; omega
    subst hj
    rw [List.getElem?_append_right (by omega), hvl, Nat.sub_self] at h1
    rw [List.getElem?_append_right (by omega), hl, Nat.sub_self] at h2
    cases h1; cases h2
    exact hv

set_option maxRecDepth 100000 in
set_option maxHeartbeats 2000000 in
theorem c_l13End {v0 v1 : Value} {ar t rest : List Int} {p : Nat} {u : Tm} {w : World} (h0 : RdSig w v0 ar) (h1 : RdI w v1 t) (hs : SigP ar) (hu : u.Ok ar) (hd : t.drop p = u.flat ++ rest) :
    Calls Try.prog 53 #[v0, v1, .int .i64 (p : Int)] w fun e w' => e = .returned (.int .i64 ((p + u.flat.length : Nat) : Int)) ∧ Ext w w' := by
  have hend := endI_flat hu hd
  have hpl := drop_lt hd (flat_pos u)
  obtain ⟨A, n, c, rfl, ha⟩ := h0
  obtain ⟨B, m, d, rfl, hb⟩ := h1
  have hm := hb.le
  have hml := hb.len
  have HN := Lib.hid ha.len
  have HA := Lib.hid ha
  have HB := Lib.hid hb
  have HS := Lib.hid hs
  have HE := Lib.hid hend
  have HM := Lib.hid hml
  have hpm : p ≤ m := by omega
  clear ha hb hs hend hml hd hu hpl
  go_enter Try.func53, Try.ntmps53
  go_wp2_with fail
  obtain ⟨wo, hwo⟩ : ∃ wo, wo = w.alloc (.cells #[.slice A n c] 29) := ⟨_, rfl⟩
  have hb0 : wo.cell? ⟨w.heap.size, 0, none⟩ = some (.slice A n c) := by rw [hwo]; simp [go_sem]
  have hEo : Ext w wo := by rw [hwo]; (repeat' (first | (with_reducible exact Ext.refl _) | (with_reducible assumption) | (with_reducible refine Ext.alloc ?_ _) | (with_reducible refine Ext.set ?_ ?_ _) | (with_reducible refine Ext.drewN ?_ _) | (with_reducible refine Ext.drew ?_) | (with_reducible refine Ext.trans ?_ (by with_reducible assumption)) | go_size))
  rw [← hwo]
  clear hwo
  go_loopw [2, 7] (fun i nn wr => ∃ q nd : Nat, i = .int .i64 q ∧ nn = .int .i64 nd ∧ nd ≤ 1 + 3 * q ∧ q ≤ m ∧ Hid (ScanAt (arI ar) t p q nd) ∧ Ext wo wr) (fun i _ _ => m + 1 - (intOf i).toNat)
  case atStart => exact ⟨p, 1, rfl, rfl, by omega, by omega, Lib.hid (ScanAt.start (by rw [HM.out]; exact hpm)), by (repeat' (first | (with_reducible exact Ext.refl _) | (with_reducible assumption) | (with_reducible refine Ext.alloc ?_ _) | (with_reducible refine Ext.set ?_ ?_ _) | (with_reducible refine Ext.drewN ?_ _) | (with_reducible refine Ext.drew ?_) | (with_reducible refine Ext.trans ?_ (by with_reducible assumption)) | go_size))⟩
  case round =>
    obtain ⟨q, nd, rfl, rfl, hnd, hqm, hsc, hE⟩ := hrel
    have hr0 : wr.cell? ⟨w.heap.size, 0, none⟩ = some (.slice A n c) := Ext.keep hE hb0
    rcases nd with _ | nd
    · go_wp2
      go_ret
      exact ⟨ret_int (hsc.out.done.symm.trans HE.out), by (repeat' (first | (with_reducible exact Ext.refl _) | (with_reducible assumption) | (with_reducible refine Ext.alloc ?_ _) | (with_reducible refine Ext.set ?_ ?_ _) | (with_reducible refine Ext.drewN ?_ _) | (with_reducible refine Ext.drew ?_) | (with_reducible refine Ext.trans ?_ (by with_reducible assumption)) | go_size))⟩
    · by_cases hq : q = m
      · exfalso
        have h1 := hsc.out.out (by rw [HM.out]; exact hq)
        have h2 : endF (arI ar) t p = _ := HE.out
        rw [h1] at h2; omega
      · have hq' : q < m := by omega
        obtain ⟨b, o, x, rfl, hx, hcx⟩ := RI.at_ (RI.ext HB.out (by (repeat' (first | (with_reducible exact Ext.refl _) | (with_reducible assumption) | (with_reducible refine Ext.alloc ?_ _) | (with_reducible refine Ext.set ?_ ?_ _) | (with_reducible refine Ext.drewN ?_ _) | (with_reducible refine Ext.drew ?_) | (with_reducible refine Ext.trans ?_ (by with_reducible assumption)) | go_size)) : Ext w wr)) hq'
        rcases hf : arI ar x with _ | a
        · exfalso
          have h1 := hsc.out.bad hx hf
          have h2 : endF (arI ar) t p = _ := HE.out
          rw [h1] at h2; omega
        · have ha3 := arI_le HS.out hf
          have HSC := Lib.hid (hsc.out.step hx hf)
          have hxl := arI_lt hf
          rw [HN.out] at hxl
          have hqi : (q : Int) < (m : Int) := by omega
          by_cases hx0 : x < 0
          · have ha0 : a = 0 := by rw [arI_neg hx0] at hf; cases hf; rfl
            subst ha0
            clear hf hx
            go_wp2
            go_roundw
            case rel => exact ⟨q + 1, nd, by go_num, by go_num, by omega, by omega, HSC, by (repeat' (first | (with_reducible exact Ext.refl _) | (with_reducible assumption) | (with_reducible refine Ext.alloc ?_ _) | (with_reducible refine Ext.set ?_ ?_ _) | (with_reducible refine Ext.drewN ?_ _) | (with_reducible refine Ext.drew ?_) | (with_reducible refine Ext.trans ?_ (by with_reducible assumption)) | go_size))⟩
            case measure => simp only [intOf]; omega
          · obtain ⟨z0, rfl⟩ := Int.eq_ofNat_of_zero_le (show 0 ≤ x by omega)
            have hzn : z0 < n := by omega
            obtain ⟨b2, o2, s, rfl, hs2, hcs⟩ := RI.at_ (RI.ext HA.out (by (repeat' (first | (with_reducible exact Ext.refl _) | (with_reducible assumption) | (with_reducible refine Ext.alloc ?_ _) | (with_reducible refine Ext.set ?_ ?_ _) | (with_reducible refine Ext.drewN ?_ _) | (with_reducible refine Ext.drew ?_) | (with_reducible refine Ext.trans ?_ (by with_reducible assumption)) | go_size)) : Ext w wr)) hzn
            have has : (s : Int) = (a : Int) := by
              rw [arI_at (by omega) (by rw [Int.toNat_natCast]; exact hs2)] at hf
              have := HS.out.2.2 s (List.mem_of_getElem? hs2)
              injection hf with hf; omega
            subst has
            clear hf hx hs2
            go_wp2_with fail
            go_quiet (fail)
            go_wp2
            go_roundw
            case rel => exact ⟨q + 1, nd + a, by go_num, by go_num, by omega, by omega, HSC, by (repeat' (first | (with_reducible exact Ext.refl _) | (with_reducible assumption) | (with_reducible refine Ext.alloc ?_ _) | (with_reducible refine Ext.set ?_ ?_ _) | (with_reducible refine Ext.drewN ?_ _) | (with_reducible refine Ext.drew ?_) | (with_reducible refine Ext.trans ?_ (by with_reducible assumption)) | go_size))⟩
            case measure => simp only [intOf]; omega
theorem alloc_at (w : World) (o : Obj) : (w.alloc o).heap[w.heap.size]? = some o := by show (w.heap.push o)[w.heap.size]? = some o; simp

end Go.Proofs.Ytdkiejhimmkocaa
