/- The program's functions on places of right terms. -/
import Derived.Test.YtempekmenkeigaaTerm
import Derived.Test.YtempekmenkeigaaMgA
import Derived.Test.YtempekmenkeigaaMark
namespace Go.Proofs.Ytempekmenkeigaa
open Go.RowKit
set_option linter.unusedSimpArgs false
set_option linter.unusedVariables false

/-- A list that the slice holds room for. -/
def RdIc (w : World) (v : Value) (xs : List Int) : Prop := ∃ A n c, v = .slice A n c ∧ (n ≤ c ∧ c ≤ 9223372036854775807) ∧ RI w A n xs
theorem RdIc.mk {w : World} {A : Option Addr} {n c : Nat} {xs : List Int} (hc : n ≤ c ∧ c ≤ 9223372036854775807) (h : RI w A n xs) : RdIc w (.slice A n c) xs := ⟨A, n, c, rfl, hc, h⟩
theorem RdIc.ext {w w' : World} {v : Value} {xs : List Int} (h : RdIc w v xs) (k : Ext w w') : RdIc w' v xs := by
  obtain ⟨A, n, c, e, hc, h1⟩ := h; exact ⟨A, n, c, e, hc, h1.ext k⟩
theorem RdIc.rd {w : World} {v : Value} {xs : List Int} (h : RdIc w v xs) : RdI w v xs := by
  obtain ⟨A, n, c, e, hc, h1⟩ := h; exact ⟨A, n, c, e, h1⟩
theorem OwI.cap {w : World} {B : Nat} {A : Option Addr} {n c : Nat} {xs : List Int} (h : OwI w B A n c xs) : n ≤ c ∧ c ≤ 9223372036854775807 := by
  rcases h.2.2 with ⟨hv, hn⟩ | ⟨g, cap, cur, hv, hg, hh, h1, h2, _⟩
  · cases hv; omega
  · cases hv; exact ⟨h1, h2⟩
theorem RI.sub {w : World} {b o n : Nat} {xs ys rest : List Int} {p : Nat} (h : RI w (some ⟨b, o, none⟩) n xs) (hd : xs.drop p = ys ++ rest) : RI w (some ⟨b, o + p, none⟩) ys.length ys := by
  have hl : ys.length ≤ n - p := by
    have := congrArg List.length hd
    rw [List.length_drop, List.length_append, h.len] at this; omega
  refine ⟨⟨rfl, by have := h.le; omega⟩, fun hn => ⟨b, o + p, rfl, fun j x hx => ?_⟩⟩
  obtain ⟨b', o', e, hc⟩ := h.2 (by omega)
  cases e
  have hj : j < ys.length := (List.getElem?_eq_some_iff.1 hx).1
  have e2 : xs[p + j]? = some x := by
    rw [← List.getElem?_drop, hd, List.getElem?_append_left hj]; exact hx
  rw [Nat.add_assoc]
  exact hc _ _ e2
theorem drop_lt {xs ys rest : List Int} {p : Nat} (hd : xs.drop p = ys ++ rest) (h : 1 ≤ ys.length) : p + ys.length ≤ xs.length := by
  have := congrArg List.length hd
  rw [List.length_drop, List.length_append] at this; omega
theorem drop_head {xs us rest : List Int} {x : Int} {p : Nat} (hd : xs.drop p = (x :: us) ++ rest) : xs[p]? = some x := by
  have e : (xs.drop p)[0]? = some x := by rw [hd]; rfl
  rwa [List.getElem?_drop, Nat.add_zero] at e

/-- A slice of Go's ints of the call's own. -/
def OwN (w : World) (B : Nat) (A : Option Addr) (n c : Nat) (xs : List Int) : Prop := n ≤ 4194304 ∧ w.ownsRow B 3 1 (.slice A n c) n (xs.map (Value.int .i64))
section
variable {w w' : World} {B : Nat} {A : Option Addr} {n c : Nat} {xs : List Int}
theorem OwN.len (h : OwN w B A n c xs) : xs.length = n := by
  have := h.2.1; simpa using this
theorem OwN.ri (h : OwN w B A n c xs) : RI w A n xs := by
  refine ⟨⟨h.len, h.1⟩, fun hn => ?_⟩
  obtain ⟨g, cap, hv, _, hlt⟩ := World.ownsRow.form h.2 hn
  cases hv
  refine ⟨g, 0, rfl, fun j x hx => ?_⟩
  have hj : j < n := by have := (List.getElem?_eq_some_iff.1 hx).1; rw [h.len] at this; exact this
  have := World.ownsRow.cellAt h.2 j (by omega)
  rw [Nat.zero_add, this]
  simp [hx]
theorem OwN.ext (h : OwN w B A n c xs) (k : Ext w w') : OwN w' B A n c xs := by
  refine ⟨h.1, h.2.1, ?_⟩
  rcases h.2.2 with h2 | ⟨g, cap, cur, hv, hg, hh, r⟩
  · exact .inl h2
  · exact .inr ⟨g, cap, cur, hv, hg, (k.block g (Array.getElem?_eq_some_iff.1 hh).1).trans hh, r⟩
theorem OwN.alloc (h : OwN w B A n c xs) (o : Obj) : OwN (w.alloc o) B A n c xs := h.ext (Ext.alloc (Ext.refl _) o)
theorem OwN.ob (h : OwN w B A n c xs) : ∀ k, (Value.slice A n c).ownBlock = some k → B ≤ k := by
  intro k hk
  rcases h.2.2 with ⟨hv, _⟩ | ⟨g, cap, cur, hv, hg, _⟩
  · cases hv; cases hk
  · cases hv; cases hk; exact hg
end

/-- A list of the call's own, with room for all. -/
def NewIc (w : World) (xs : List Int) (e : Ending) (w' : World) : Prop := NewI w xs e w'
theorem NewIc.out {w w' : World} {xs : List Int} {e : Ending} (h : NewIc w xs e w') : ∃ v, e = .returned v ∧ RdIc w' v xs ∧ Ext w w' := by
  obtain ⟨A, n, c, e, h1, h2⟩ := h; exact ⟨_, e, RdIc.mk h1.cap h1.ri, h2⟩
theorem c_toInt64Sc {v : Value} {xs : List Int} {w : World} (h0 : RdI w v xs) : Calls Try.prog 51 #[v] w (NewIc w xs) := c_toInt64S h0
theorem c_endAt_flat {v0 v1 : Value} {ar t rest : List Int} {p : Nat} {u : Tm} {w : World} (h0 : RdSig w v0 ar) (h1 : RdI w v1 t) (hs : SigP ar) (hu : u.Ok ar) (hd : t.drop p = u.flat ++ rest) :
    Calls Try.prog 88 #[v0, v1, .int .i64 (p : Int)] w fun e w' => e = .returned (.int .i64 ((p + u.flat.length : Nat) : Int)) ∧ Ext w w' :=
  (c_endAt (p := (p : Int)) h0 h1 hs (by omega) (by have := drop_lt hd (flat_pos u); omega)).mono fun e w' h => ⟨h.1.trans (ret_int (by rw [Int.toNat_natCast]; exact endI_flat hu hd)), h.2⟩
theorem int_info : (Try.prog.info? 3).map (fun i => (i.zero, i.size, i.bytes)) = some (some (.int .i64 0), 1, 8) := by kernel_rfl
set_option maxRecDepth 100000 in
set_option maxHeartbeats 2000000 in
theorem c_argsAtB {v0 v1 : Value} {ar t rest : List Int} {p : Nat} {x : Int} {us : List Tm} {w : World} (h0 : RdSig w v0 ar) (h1 : RdI w v1 t) (hs : SigP ar) (hu : (Tm.node x us).Ok ar) (hd : t.drop p = (Tm.node x us).flat ++ rest) :
    Calls Try.prog 107 #[v0, v1, .int .i64 (p : Int)] w fun e w' => ∃ A n c, e = .returned (.slice A n c) ∧ n = us.length ∧ RI w' A n (starts (p + 1) us) ∧ Ext w w' ∧ ∀ b o s, A = some ⟨b, o, s⟩ → w.heap.size ≤ b := by
  obtain ⟨A, n, c, rfl, ha⟩ := h0
  obtain ⟨B, m, d, rfl, hb⟩ := h1
  have hm := hb.le
  have hml := hb.len
  have hlt := drop_lt hd (flat_pos _)
  rw [hml] at hlt
  have hxp : t[p]? = some x := drop_head (by rw [← flat_node]; exact hd)
  have hfl : (flatL us).length + 1 = (Tm.node x us).flat.length := by rw [flat_node]; rfl
  obtain ⟨hok, hol⟩ := Ok_node.1 hu
  have hal : us.length ≤ 3 := arI_le hs hok
  obtain ⟨b, o, y, rfl, hy, hcy⟩ := RI.at_ hb (show p < m by omega)
  rw [hxp] at hy; cases hy
  obtain ⟨i0, hii, hiz, his, hib⟩ := info_parts int_info
  have hpm : (p : Int) < (m : Int) := by omega
  have HA := Lib.hid ha
  have HB := Lib.hid hb
  have HS := Lib.hid hs
  have HD := Lib.hid hd
  have HOK := Lib.hid hok
  have HOL := Lib.hid (OkL_iff.1 hol)
  have HFL := Lib.hid hfl
  clear ha hb hs hd hok hol hxp hu hfl
  go_enter Try.func107, Try.ntmps107
  go_wp2_with fail
  obtain ⟨wo, hwo⟩ : ∃ wo, wo = w.alloc (.cells #[.slice A n c] 31) := ⟨_, rfl⟩
  have hb0 : wo.cell? ⟨w.heap.size, 0, none⟩ = some (.slice A n c) := by rw [hwo]; simp [go_sem]
  have hEo : Ext w wo := by rw [hwo]; exact extX
  have hcy2 : wo.cell? ⟨b, o + p, none⟩ = some (.int .i64 x) := Ext.keep hEo hcy
  rw [← hwo]
  clear hwo hcy
  go_still_tail 5, (by kernel_rfl)
  change wpList _ _ _ _ _ wo.drew
  have hE1 : Ext w wo.drew := by exact extX
  go_wp2_with (go_at_call 112; (with_reducible refine (c_arityAt (ar := ar) (RdSig.mk (RI.ext HA.out (by exact extX))) HS.out HOK.out).mono ?_); rintro e w2 ⟨rfl, hE2⟩)
  have hb2 : w2.cell? ⟨w.heap.size, 0, none⟩ = some (.slice A n c) := Ext.keep hE2 hb0
  have hEw : Ext w w2 := by exact extX
  go_loopw [7, 8, 9] (fun ov nx nn wr => ∃ k : Nat, k ≤ us.length ∧ nn = .int .i64 ((us.length : Int) - k) ∧ (∃ q : Nat, nx = .int .i64 (q : Int) ∧ Hid (q = p + 1 + (flatL (us.take k)).length) ∧ q ≤ m) ∧ (∃ A c, ov = .slice A k c ∧ Hid (OwN wr w2.heap.size A k c (starts (p + 1) (us.take k)))) ∧ Ext w2 wr) (fun _ _ nn _ => (intOf nn).toNat)
  case atStart => exact ⟨0, Nat.zero_le _, by simp, ⟨p + 1, by go_num, Lib.hid (by simp [flatL_nil]), by omega⟩, ⟨none, 0, rfl, Lib.hid ⟨by omega, by simp [starts]; exact World.ownsRow_nil _ _ _ _⟩⟩, by exact extX⟩
  case round =>
    obtain ⟨k, hk, rfl, ⟨q, rfl, hq, hqm⟩, ⟨A1, c1, rfl, hO⟩, hE3⟩ := hrel
    have hb3 : wr.cell? ⟨w.heap.size, 0, none⟩ = some (.slice A n c) := Ext.keep hE3 hb2
    by_cases hlt2 : k < us.length
    · obtain ⟨a, hak⟩ : ∃ a, us[k]? = some a := ⟨us[k], List.getElem?_eq_getElem hlt2⟩
      have hda := drop_arg HD.out hak
      rw [← hq.out] at hda
      have hao := HOL.out a (List.mem_of_getElem? hak)
      have hqa := drop_lt hda (flat_pos a)
      rw [hml] at hqa
      have hst : starts (p + 1) (us.take (k + 1)) = starts (p + 1) (us.take k) ++ [(q : Int)] := by
        rw [take_snoc hak, starts_append, ← hq.out]; rfl
      have hfk : (flatL (us.take (k + 1))).length = (flatL (us.take k)).length + a.flat.length := by
        rw [take_snoc hak, flatL_append, flatL_cons, flatL_nil, List.append_nil, List.length_append]
      have HDA := Lib.hid hda
      have HAO := Lib.hid hao
      have HST := Lib.hid hst
      have HFK := Lib.hid hfk
      clear hda hao hst hfk hak
      have hkk : (0 : Int) < (us.length : Int) - k := by omega
      go_wp2_with (at_builtin; go_loud (refine wpList_append_lies _ rfl (.tmp 22) (.tmp 24) 140 rfl w2.heap.size 3 i0 (.int .i64 0) 1 8 Try.underlying140 hii hiz his hib rfl (by decide) _ _ _ rfl (OwN.alloc hO.out _).2 ⟨wr.heap.size, 0, none⟩ 1 1 [.int .i64 (q : Int)] rfl rfl (one_cells _ _ _) (one_one _) (by decide) (by unfold maxLen; omega) (by omega) (by have := hE3.size; go_size) _ rfl ?_))
      intro g cap wx hown hg hat hltg
      have hE4 : Ext w2 wx := Ext.grown (hE3.alloc _) hg (fun k' hk' => hO.out.ob k' hk')
      have HW := Lib.hid (show OwN wx w2.heap.size (some ⟨g, 0, none⟩) (k + 1) cap (starts (p + 1) (us.take (k + 1))) from ⟨by omega, by rw [HST.out, List.map_append]; exact hown⟩)
      have hb4 : wx.cell? ⟨w.heap.size, 0, none⟩ = some (.slice A n c) := Ext.keep hE4 hb2
      have hEwx : Ext w wx := by exact extX
      clear hown hg hat
      go_wp2_with (go_at_call 88; (with_reducible refine (c_endAt_flat (u := a) (RdSig.mk (RI.ext HA.out (by exact extX))) (RdI.mk (RI.ext HB.out (by exact extX))) HS.out HAO.out HDA.out).mono ?_); rintro e w5 ⟨rfl, hE5⟩)
      go_roundw
      case rel => exact ⟨k + 1, by omega, by go_num, ⟨q + a.flat.length, rfl, Lib.hid (by rw [HFK.out, hq.out]; omega), by omega⟩, ⟨_, _, rfl, Lib.hid (HW.out.ext hE5)⟩, by exact extX⟩
      case measure => simp only [intOf]; omega
    · have hkn : k = us.length := by omega
      subst hkn
      go_wp2
      go_ret
      exact ⟨_, _, _, rfl, rfl, by have := hO.out.ri; rwa [List.take_length] at this, by exact extX, fun b o s e => by subst e; have h1 := hO.out.ob b rfl; have h2 := hEw.size; omega⟩
theorem c_argsAt {v0 v1 : Value} {ar t rest : List Int} {p : Nat} {x : Int} {us : List Tm} {w : World} (h0 : RdSig w v0 ar) (h1 : RdI w v1 t) (hs : SigP ar) (hu : (Tm.node x us).Ok ar) (hd : t.drop p = (Tm.node x us).flat ++ rest) :
    Calls Try.prog 107 #[v0, v1, .int .i64 (p : Int)] w fun e w' => ∃ A n c, e = .returned (.slice A n c) ∧ n = us.length ∧ RI w' A n (starts (p + 1) us) ∧ Ext w w' :=
  (c_argsAtB h0 h1 hs hu hd).mono fun _ _ ⟨A, n, c, e, h1, h2, h3, _⟩ => ⟨A, n, c, e, h1, h2, h3⟩

end Go.Proofs.Ytempekmenkeigaa
