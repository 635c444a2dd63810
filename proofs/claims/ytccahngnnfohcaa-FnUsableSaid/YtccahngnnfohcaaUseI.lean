/- UsableOf of the program. -/
import Derived.Test.YtccahngnnfohcaaMUse
import Derived.Test.YtccahngnnfohcaaSysOk
import Derived.Test.YtccahngnnfohcaaWin
-- rd: RdSyK
namespace Go.Proofs.Ytccahngnnfohcaa
open Go.RowKit
set_option linter.unusedSimpArgs false
set_option linter.unusedVariables false

theorem madeBools (n : Nat) : (madeCells #[Value.bool false] n).toList = (List.replicate n false).map Value.bool := by
  apply List.ext_getElem?
  intro j
  simp only [madeCells, Array.toList_map, Array.toList_range, List.getElem?_map, List.getElem?_replicate]
  rcases Nat.lt_or_ge j n with h | h
  · simp [h, Nat.mod_one]
  · simp [Nat.not_lt.2 h]
theorem bool_info : (Try.prog.info? 4).map (fun i => (i.zero, i.size, i.bytes)) = some (some (.bool false), 1, 1) := by kernel_rfl
theorem OwB.uniq {u m : Nat} {w : World} {us us' : List Bool} (h : OwB u m w us) (h' : OwB u m w us') : us = us' := by
  apply List.ext_getElem?
  intro j
  rcases Nat.lt_or_ge j m with hj | hj
  · obtain ⟨b, hb, hc, _⟩ := h.at_ hj
    obtain ⟨b', hb', hc', _⟩ := h'.at_ hj
    rw [hc] at hc'; cases hc'
    rw [hb, hb']
  · rw [List.getElem?_eq_none (by rw [h.len]; exact hj), List.getElem?_eq_none (by rw [h'.len]; exact hj)]
def lenOf' : Value → Nat
  | .slice _ n _ => n
  | _ => 0
noncomputable def useMeas (rs : List Ru) (u m : Nat) (v : Value) (w : World) : Nat := by
  classical exact lenOf' v + (if h : ∃ us, OwB u m w us then useNeed rs (Classical.choose h) else 0)
theorem useMeas_eq {rs : List Ru} {u m n c : Nat} {A : Option Addr} {w : World} {us : List Bool} (h : OwB u m w us) : useMeas rs u m (.slice A n c) w = n + useNeed rs us := by
  have hx : ∃ us, OwB u m w us := ⟨us, h⟩
  unfold useMeas
  rw [dif_pos hx, (Classical.choose_spec hx).uniq h]
  rfl
set_option maxRecDepth 100000 in
set_option maxHeartbeats 4000000 in
theorem c_iUsableOf {v0 v1 : Value} {s : Sy} {t : List Int} {w : World} (h0 : RdSyC w v0 s) (h1 : RdIc w v1 t) :
    Calls Try.prog 45 #[v0, v1] w (NewI w (useV s t)) := by
  obtain ⟨A, n, c, B, m, d, rfl, ha, hb⟩ := h0
  obtain ⟨D, q, l, rfl, hcap, hd⟩ := h1
  have HA := Lib.hid ha
  have HB := Lib.hid hb
  have HD := Lib.hid hd
  have HDL := Lib.hid hd.len
  have HML := Lib.hid hb.len
  clear ha hb hd
  cases hs : sysOk s with
  | false =>
    have HR := Lib.hid (useV_sys (t := t) hs)
    go_enter Try.func45, Try.ntmps45
    go_wp2_with (go_at_call 81; (with_reducible refine (c_iSystemOk (s := s) (by (first | (first | (with_reducible exact RdI.mk (RI.ext (Hid.out (by with_reducible assumption)) (by (repeat' (first | (with_reducible exact Ext.refl _) | (with_reducible assumption) | (with_reducible refine Ext.alloc ?_ _) | (with_reducible refine Ext.set ?_ ?_ _) | (with_reducible refine Ext.drewN ?_ _) | (with_reducible refine Ext.drew ?_) | (with_reducible refine Ext.trans ?_ (by with_reducible assumption)) | go_size))))) | (with_reducible exact RdI.ext (by with_reducible assumption) (by (repeat' (first | (with_reducible exact Ext.refl _) | (with_reducible assumption) | (with_reducible refine Ext.alloc ?_ _) | (with_reducible refine Ext.set ?_ ?_ _) | (with_reducible refine Ext.drewN ?_ _) | (with_reducible refine Ext.drew ?_) | (with_reducible refine Ext.trans ?_ (by with_reducible assumption)) | go_size))))) | (with_reducible exact RdSyK.mk (by (first | (with_reducible exact RI.ext (Hid.out (by with_reducible assumption)) (by (repeat' (first | (with_reducible exact Ext.refl _) | (with_reducible assumption) | (with_reducible refine Ext.alloc ?_ _) | (with_reducible refine Ext.set ?_ ?_ _) | (with_reducible refine Ext.drewN ?_ _) | (with_reducible refine Ext.drew ?_) | (with_reducible refine Ext.trans ?_ (by with_reducible assumption)) | go_size)))))) (RR.ext (Hid.out (by with_reducible assumption)) (by (repeat' (first | (with_reducible exact Ext.refl _) | (with_reducible assumption) | (with_reducible refine Ext.alloc ?_ _) | (with_reducible refine Ext.set ?_ ?_ _) | (with_reducible refine Ext.drewN ?_ _) | (with_reducible refine Ext.drew ?_) | (with_reducible refine Ext.trans ?_ (by with_reducible assumption)) | go_size))))) | (with_reducible exact RdSyK.ext (by with_reducible assumption) (by (repeat' (first | (with_reducible exact Ext.refl _) | (with_reducible assumption) | (with_reducible refine Ext.alloc ?_ _) | (with_reducible refine Ext.set ?_ ?_ _) | (with_reducible refine Ext.drewN ?_ _) | (with_reducible refine Ext.drew ?_) | (with_reducible refine Ext.trans ?_ (by with_reducible assumption)) | go_size)))) | (with_reducible exact RdSig.mk (by (first | (with_reducible exact RI.ext (Hid.out (by with_reducible assumption)) (by (repeat' (first | (with_reducible exact Ext.refl _) | (with_reducible assumption) | (with_reducible refine Ext.alloc ?_ _) | (with_reducible refine Ext.set ?_ ?_ _) | (with_reducible refine Ext.drewN ?_ _) | (with_reducible refine Ext.drew ?_) | (with_reducible refine Ext.trans ?_ (by with_reducible assumption)) | go_size))))))) | (with_reducible exact RdSig.ext (by with_reducible assumption) (by (repeat' (first | (with_reducible exact Ext.refl _) | (with_reducible assumption) | (with_reducible refine Ext.alloc ?_ _) | (with_reducible refine Ext.set ?_ ?_ _) | (with_reducible refine Ext.drewN ?_ _) | (with_reducible refine Ext.drew ?_) | (with_reducible refine Ext.trans ?_ (by with_reducible assumption)) | go_size))))))).mono ?_); rintro e w1 ⟨rfl, hE1⟩; have hz1 := sz_of hE1; (try simp only [World.size_alloc, World.size_setCell, World.size_drew] at hz1); obtain ⟨hc1, hf1⟩ := bcell hE1; (try have hq1_0 : w.heap.size < w1.heap.size := by omega); (try have hq1_1 : w.heap.size + 1 < w1.heap.size := by omega); (try have hq1_2 : w.heap.size + 1 + 1 < w1.heap.size := by omega); (try have hq1_3 : w.heap.size + 1 + 1 + 1 < w1.heap.size := by omega); (try have hq1_4 : w.heap.size + 1 + 1 + 1 + 1 < w1.heap.size := by omega); (try have hq1_5 : w.heap.size + 1 + 1 + 1 + 1 + 1 < w1.heap.size := by omega))
    go_ret
    exact ⟨none, 0, 0, rfl, by rw [HR.out]; exact ⟨by omega, World.ownsRow_nil _ _ _ _⟩, by (repeat' (first | (with_reducible exact Ext.refl _) | (with_reducible assumption) | (with_reducible refine Ext.alloc ?_ _) | (with_reducible refine Ext.set ?_ ?_ _) | (with_reducible refine Ext.drewN ?_ _) | (with_reducible refine Ext.drew ?_) | (with_reducible refine Ext.trans ?_ (by with_reducible assumption)) | go_size))⟩
  | true =>
    cases ht : termOk s.ar t with
    | false =>
      have HR := Lib.hid (useV_term (s := s) ht)
      go_enter Try.func45, Try.ntmps45
      go_wp2_with (first
        | (go_at_call 81; (with_reducible refine (c_iSystemOk (s := s) (by (first | (first | (with_reducible exact RdI.mk (RI.ext (Hid.out (by with_reducible assumption)) (by (repeat' (first | (with_reducible exact Ext.refl _) | (with_reducible assumption) | (with_reducible refine Ext.alloc ?_ _) | (with_reducible refine Ext.set ?_ ?_ _) | (with_reducible refine Ext.drewN ?_ _) | (with_reducible refine Ext.drew ?_) | (with_reducible refine Ext.trans ?_ (by with_reducible assumption)) | go_size))))) | (with_reducible exact RdI.ext (by with_reducible assumption) (by (repeat' (first | (with_reducible exact Ext.refl _) | (with_reducible assumption) | (with_reducible refine Ext.alloc ?_ _) | (with_reducible refine Ext.set ?_ ?_ _) | (with_reducible refine Ext.drewN ?_ _) | (with_reducible refine Ext.drew ?_) | (with_reducible refine Ext.trans ?_ (by with_reducible assumption)) | go_size))))) | (with_reducible exact RdSyK.mk (by (first | (with_reducible exact RI.ext (Hid.out (by with_reducible assumption)) (by (repeat' (first | (with_reducible exact Ext.refl _) | (with_reducible assumption) | (with_reducible refine Ext.alloc ?_ _) | (with_reducible refine Ext.set ?_ ?_ _) | (with_reducible refine Ext.drewN ?_ _) | (with_reducible refine Ext.drew ?_) | (with_reducible refine Ext.trans ?_ (by with_reducible assumption)) | go_size)))))) (RR.ext (Hid.out (by with_reducible assumption)) (by (repeat' (first | (with_reducible exact Ext.refl _) | (with_reducible assumption) | (with_reducible refine Ext.alloc ?_ _) | (with_reducible refine Ext.set ?_ ?_ _) | (with_reducible refine Ext.drewN ?_ _) | (with_reducible refine Ext.drew ?_) | (with_reducible refine Ext.trans ?_ (by with_reducible assumption)) | go_size))))) | (with_reducible exact RdSyK.ext (by with_reducible assumption) (by (repeat' (first | (with_reducible exact Ext.refl _) | (with_reducible assumption) | (with_reducible refine Ext.alloc ?_ _) | (with_reducible refine Ext.set ?_ ?_ _) | (with_reducible refine Ext.drewN ?_ _) | (with_reducible refine Ext.drew ?_) | (with_reducible refine Ext.trans ?_ (by with_reducible assumption)) | go_size)))) | (with_reducible exact RdSig.mk (by (first | (with_reducible exact RI.ext (Hid.out (by with_reducible assumption)) (by (repeat' (first | (with_reducible exact Ext.refl _) | (with_reducible assumption) | (with_reducible refine Ext.alloc ?_ _) | (with_reducible refine Ext.set ?_ ?_ _) | (with_reducible refine Ext.drewN ?_ _) | (with_reducible refine Ext.drew ?_) | (with_reducible refine Ext.trans ?_ (by with_reducible assumption)) | go_size))))))) | (with_reducible exact RdSig.ext (by with_reducible assumption) (by (repeat' (first | (with_reducible exact Ext.refl _) | (with_reducible assumption) | (with_reducible refine Ext.alloc ?_ _) | (with_reducible refine Ext.set ?_ ?_ _) | (with_reducible refine Ext.drewN ?_ _) | (with_reducible refine Ext.drew ?_) | (with_reducible refine Ext.trans ?_ (by with_reducible assumption)) | go_size))))))).mono ?_); rintro e w1 ⟨rfl, hE1⟩; have hz1 := sz_of hE1; (try simp only [World.size_alloc, World.size_setCell, World.size_drew] at hz1); obtain ⟨hc1, hf1⟩ := bcell hE1; (try have hq1_0 : w.heap.size < w1.heap.size := by omega); (try have hq1_1 : w.heap.size + 1 < w1.heap.size := by omega); (try have hq1_2 : w.heap.size + 1 + 1 < w1.heap.size := by omega); (try have hq1_3 : w.heap.size + 1 + 1 + 1 < w1.heap.size := by omega); (try have hq1_4 : w.heap.size + 1 + 1 + 1 + 1 < w1.heap.size := by omega); (try have hq1_5 : w.heap.size + 1 + 1 + 1 + 1 + 1 < w1.heap.size := by omega))
        | (go_at_call 88; (with_reducible refine (c_iTermOk (ar := s.ar) (t := t) (by (first | (first | (with_reducible exact RdI.mk (RI.ext (Hid.out (by with_reducible assumption)) (by (repeat' (first | (with_reducible exact Ext.refl _) | (with_reducible assumption) | (with_reducible refine Ext.alloc ?_ _) | (with_reducible refine Ext.set ?_ ?_ _) | (with_reducible refine Ext.drewN ?_ _) | (with_reducible refine Ext.drew ?_) | (with_reducible refine Ext.trans ?_ (by with_reducible assumption)) | go_size))))) | (with_reducible exact RdI.ext (by with_reducible assumption) (by (repeat' (first | (with_reducible exact Ext.refl _) | (with_reducible assumption) | (with_reducible refine Ext.alloc ?_ _) | (with_reducible refine Ext.set ?_ ?_ _) | (with_reducible refine Ext.drewN ?_ _) | (with_reducible refine Ext.drew ?_) | (with_reducible refine Ext.trans ?_ (by with_reducible assumption)) | go_size))))) | (with_reducible exact RdSyK.mk (by (first | (with_reducible exact RI.ext (Hid.out (by with_reducible assumption)) (by (repeat' (first | (with_reducible exact Ext.refl _) | (with_reducible assumption) | (with_reducible refine Ext.alloc ?_ _) | (with_reducible refine Ext.set ?_ ?_ _) | (with_reducible refine Ext.drewN ?_ _) | (with_reducible refine Ext.drew ?_) | (with_reducible refine Ext.trans ?_ (by with_reducible assumption)) | go_size)))))) (RR.ext (Hid.out (by with_reducible assumption)) (by (repeat' (first | (with_reducible exact Ext.refl _) | (with_reducible assumption) | (with_reducible refine Ext.alloc ?_ _) | (with_reducible refine Ext.set ?_ ?_ _) | (with_reducible refine Ext.drewN ?_ _) | (with_reducible refine Ext.drew ?_) | (with_reducible refine Ext.trans ?_ (by with_reducible assumption)) | go_size))))) | (with_reducible exact RdSyK.ext (by with_reducible assumption) (by (repeat' (first | (with_reducible exact Ext.refl _) | (with_reducible assumption) | (with_reducible refine Ext.alloc ?_ _) | (with_reducible refine Ext.set ?_ ?_ _) | (with_reducible refine Ext.drewN ?_ _) | (with_reducible refine Ext.drew ?_) | (with_reducible refine Ext.trans ?_ (by with_reducible assumption)) | go_size)))) | (with_reducible exact RdSig.mk (by (first | (with_reducible exact RI.ext (Hid.out (by with_reducible assumption)) (by (repeat' (first | (with_reducible exact Ext.refl _) | (with_reducible assumption) | (with_reducible refine Ext.alloc ?_ _) | (with_reducible refine Ext.set ?_ ?_ _) | (with_reducible refine Ext.drewN ?_ _) | (with_reducible refine Ext.drew ?_) | (with_reducible refine Ext.trans ?_ (by with_reducible assumption)) | go_size))))))) | (with_reducible exact RdSig.ext (by with_reducible assumption) (by (repeat' (first | (with_reducible exact Ext.refl _) | (with_reducible assumption) | (with_reducible refine Ext.alloc ?_ _) | (with_reducible refine Ext.set ?_ ?_ _) | (with_reducible refine Ext.drewN ?_ _) | (with_reducible refine Ext.drew ?_) | (with_reducible refine Ext.trans ?_ (by with_reducible assumption)) | go_size)))))) (by (first | (first | (with_reducible exact RdI.mk (RI.ext (Hid.out (by with_reducible assumption)) (by (repeat' (first | (with_reducible exact Ext.refl _) | (with_reducible assumption) | (with_reducible refine Ext.alloc ?_ _) | (with_reducible refine Ext.set ?_ ?_ _) | (with_reducible refine Ext.drewN ?_ _) | (with_reducible refine Ext.drew ?_) | (with_reducible refine Ext.trans ?_ (by with_reducible assumption)) | go_size))))) | (with_reducible exact RdI.ext (by with_reducible assumption) (by (repeat' (first | (with_reducible exact Ext.refl _) | (with_reducible assumption) | (with_reducible refine Ext.alloc ?_ _) | (with_reducible refine Ext.set ?_ ?_ _) | (with_reducible refine Ext.drewN ?_ _) | (with_reducible refine Ext.drew ?_) | (with_reducible refine Ext.trans ?_ (by with_reducible assumption)) | go_size))))) | (with_reducible exact RdSyK.mk (by (first | (with_reducible exact RI.ext (Hid.out (by with_reducible assumption)) (by (repeat' (first | (with_reducible exact Ext.refl _) | (with_reducible assumption) | (with_reducible refine Ext.alloc ?_ _) | (with_reducible refine Ext.set ?_ ?_ _) | (with_reducible refine Ext.drewN ?_ _) | (with_reducible refine Ext.drew ?_) | (with_reducible refine Ext.trans ?_ (by with_reducible assumption)) | go_size)))))) (RR.ext (Hid.out (by with_reducible assumption)) (by (repeat' (first | (with_reducible exact Ext.refl _) | (with_reducible assumption) | (with_reducible refine Ext.alloc ?_ _) | (with_reducible refine Ext.set ?_ ?_ _) | (with_reducible refine Ext.drewN ?_ _) | (with_reducible refine Ext.drew ?_) | (with_reducible refine Ext.trans ?_ (by with_reducible assumption)) | go_size))))) | (with_reducible exact RdSyK.ext (by with_reducible assumption) (by (repeat' (first | (with_reducible exact Ext.refl _) | (with_reducible assumption) | (with_reducible refine Ext.alloc ?_ _) | (with_reducible refine Ext.set ?_ ?_ _) | (with_reducible refine Ext.drewN ?_ _) | (with_reducible refine Ext.drew ?_) | (with_reducible refine Ext.trans ?_ (by with_reducible assumption)) | go_size)))) | (with_reducible exact RdSig.mk (by (first | (with_reducible exact RI.ext (Hid.out (by with_reducible assumption)) (by (repeat' (first | (with_reducible exact Ext.refl _) | (with_reducible assumption) | (with_reducible refine Ext.alloc ?_ _) | (with_reducible refine Ext.set ?_ ?_ _) | (with_reducible refine Ext.drewN ?_ _) | (with_reducible refine Ext.drew ?_) | (with_reducible refine Ext.trans ?_ (by with_reducible assumption)) | go_size))))))) | (with_reducible exact RdSig.ext (by with_reducible assumption) (by (repeat' (first | (with_reducible exact Ext.refl _) | (with_reducible assumption) | (with_reducible refine Ext.alloc ?_ _) | (with_reducible refine Ext.set ?_ ?_ _) | (with_reducible refine Ext.drewN ?_ _) | (with_reducible refine Ext.drew ?_) | (with_reducible refine Ext.trans ?_ (by with_reducible assumption)) | go_size))))))).mono ?_); rintro e w2 ⟨rfl, hE2⟩; have hz2 := sz_of hE2; (try simp only [World.size_alloc, World.size_setCell, World.size_drew] at hz2); obtain ⟨hc2, hf2⟩ := bcell hE2; (try have hq2_0 : w.heap.size < w2.heap.size := by omega); (try have hq2_1 : w.heap.size + 1 < w2.heap.size := by omega); (try have hq2_2 : w.heap.size + 1 + 1 < w2.heap.size := by omega); (try have hq2_3 : w.heap.size + 1 + 1 + 1 < w2.heap.size := by omega); (try have hq2_4 : w.heap.size + 1 + 1 + 1 + 1 < w2.heap.size := by omega); (try have hq2_5 : w.heap.size + 1 + 1 + 1 + 1 + 1 < w2.heap.size := by omega); (try have hx2_1 : w1.heap.size < w2.heap.size := by omega)))
      go_ret
      exact ⟨none, 0, 0, rfl, by rw [HR.out]; exact ⟨by omega, World.ownsRow_nil _ _ _ _⟩, by (repeat' (first | (with_reducible exact Ext.refl _) | (with_reducible assumption) | (with_reducible refine Ext.alloc ?_ _) | (with_reducible refine Ext.set ?_ ?_ _) | (with_reducible refine Ext.drewN ?_ _) | (with_reducible refine Ext.drew ?_) | (with_reducible refine Ext.trans ?_ (by with_reducible assumption)) | go_size))⟩
    | true =>
      have HR := Lib.hid (useV_ok hs ht)
      have HS := Lib.hid (sysOk_iff.1 hs)
      have HT := Lib.hid (termOk_iff.1 ht)
      have hq1 : 0 < q := by have := HT.out.2.1.1; rw [HDL.out] at this; omega
      have hq60 : q ≤ 60 := by have := HT.out.2.1.2; rw [HDL.out] at this; omega
      have hm12 : m ≤ 12 := by have := HS.out.2.1; rw [HML.out] at this; exact this
      obtain ⟨b0, o0, x0, rfl, _, _⟩ := RI.at_ HD.out hq1
      have hsok := hs
      have htok := ht
      clear hs ht
      obtain ⟨i0, hii, hiz, his, hib⟩ := info_parts int64_info
      obtain ⟨ib, hbi, hbz, hbs, hbb⟩ := info_parts bool_info
      go_enter Try.func45, Try.ntmps45
      go_wp2_with fail
      (with_reducible refine (c_iSystemOk (s := s) (by (first | (first | (with_reducible exact RdI.mk (RI.ext (Hid.out (by with_reducible assumption)) (by (repeat' (first | (with_reducible exact Ext.refl _) | (with_reducible assumption) | (with_reducible refine Ext.alloc ?_ _) | (with_reducible refine Ext.set ?_ ?_ _) | (with_reducible refine Ext.drewN ?_ _) | (with_reducible refine Ext.drew ?_) | (with_reducible refine Ext.trans ?_ (by with_reducible assumption)) | go_size))))) | (with_reducible exact RdI.ext (by with_reducible assumption) (by (repeat' (first | (with_reducible exact Ext.refl _) | (with_reducible assumption) | (with_reducible refine Ext.alloc ?_ _) | (with_reducible refine Ext.set ?_ ?_ _) | (with_reducible refine Ext.drewN ?_ _) | (with_reducible refine Ext.drew ?_) | (with_reducible refine Ext.trans ?_ (by with_reducible assumption)) | go_size))))) | (with_reducible exact RdSyK.mk (by (first | (with_reducible exact RI.ext (Hid.out (by with_reducible assumption)) (by (repeat' (first | (with_reducible exact Ext.refl _) | (with_reducible assumption) | (with_reducible refine Ext.alloc ?_ _) | (with_reducible refine Ext.set ?_ ?_ _) | (with_reducible refine Ext.drewN ?_ _) | (with_reducible refine Ext.drew ?_) | (with_reducible refine Ext.trans ?_ (by with_reducible assumption)) | go_size)))))) (RR.ext (Hid.out (by with_reducible assumption)) (by (repeat' (first | (with_reducible exact Ext.refl _) | (with_reducible assumption) | (with_reducible refine Ext.alloc ?_ _) | (with_reducible refine Ext.set ?_ ?_ _) | (with_reducible refine Ext.drewN ?_ _) | (with_reducible refine Ext.drew ?_) | (with_reducible refine Ext.trans ?_ (by with_reducible assumption)) | go_size))))) | (with_reducible exact RdSyK.ext (by with_reducible assumption) (by (repeat' (first | (with_reducible exact Ext.refl _) | (with_reducible assumption) | (with_reducible refine Ext.alloc ?_ _) | (with_reducible refine Ext.set ?_ ?_ _) | (with_reducible refine Ext.drewN ?_ _) | (with_reducible refine Ext.drew ?_) | (with_reducible refine Ext.trans ?_ (by with_reducible assumption)) | go_size)))) | (with_reducible exact RdSig.mk (by (first | (with_reducible exact RI.ext (Hid.out (by with_reducible assumption)) (by (repeat' (first | (with_reducible exact Ext.refl _) | (with_reducible assumption) | (with_reducible refine Ext.alloc ?_ _) | (with_reducible refine Ext.set ?_ ?_ _) | (with_reducible refine Ext.drewN ?_ _) | (with_reducible refine Ext.drew ?_) | (with_reducible refine Ext.trans ?_ (by with_reducible assumption)) | go_size))))))) | (with_reducible exact RdSig.ext (by with_reducible assumption) (by (repeat' (first | (with_reducible exact Ext.refl _) | (with_reducible assumption) | (with_reducible refine Ext.alloc ?_ _) | (with_reducible refine Ext.set ?_ ?_ _) | (with_reducible refine Ext.drewN ?_ _) | (with_reducible refine Ext.drew ?_) | (with_reducible refine Ext.trans ?_ (by with_reducible assumption)) | go_size))))))).mono ?_); rintro e w1 ⟨rfl, hE1⟩; have hz1 := sz_of hE1; (try simp only [World.size_alloc, World.size_setCell, World.size_drew] at hz1); obtain ⟨hc1, hf1⟩ := bcell hE1; (try have hq1_0 : w.heap.size < w1.heap.size := by omega); (try have hq1_1 : w.heap.size + 1 < w1.heap.size := by omega); (try have hq1_2 : w.heap.size + 1 + 1 < w1.heap.size := by omega); (try have hq1_3 : w.heap.size + 1 + 1 + 1 < w1.heap.size := by omega); (try have hq1_4 : w.heap.size + 1 + 1 + 1 + 1 < w1.heap.size := by omega); (try have hq1_5 : w.heap.size + 1 + 1 + 1 + 1 + 1 < w1.heap.size := by omega)
      have hs0 : w1.cell? ⟨w.heap.size, 0, none⟩ = some (.slice A n c) := Ext.keep hE1 (by simp [go_sem])
      have hs1 : w1.cell? ⟨w.heap.size, 1, none⟩ = some (.slice B m d) := Ext.keep hE1 (by simp [go_sem])
      go_wp2_with fail
      (with_reducible refine (c_iTermOk (ar := s.ar) (t := t) (by (first | (first | (with_reducible exact RdI.mk (RI.ext (Hid.out (by with_reducible assumption)) (by (repeat' (first | (with_reducible exact Ext.refl _) | (with_reducible assumption) | (with_reducible refine Ext.alloc ?_ _) | (with_reducible refine Ext.set ?_ ?_ _) | (with_reducible refine Ext.drewN ?_ _) | (with_reducible refine Ext.drew ?_) | (with_reducible refine Ext.trans ?_ (by with_reducible assumption)) | go_size))))) | (with_reducible exact RdI.ext (by with_reducible assumption) (by (repeat' (first | (with_reducible exact Ext.refl _) | (with_reducible assumption) | (with_reducible refine Ext.alloc ?_ _) | (with_reducible refine Ext.set ?_ ?_ _) | (with_reducible refine Ext.drewN ?_ _) | (with_reducible refine Ext.drew ?_) | (with_reducible refine Ext.trans ?_ (by with_reducible assumption)) | go_size))))) | (with_reducible exact RdSyK.mk (by (first | (with_reducible exact RI.ext (Hid.out (by with_reducible assumption)) (by (repeat' (first | (with_reducible exact Ext.refl _) | (with_reducible assumption) | (with_reducible refine Ext.alloc ?_ _) | (with_reducible refine Ext.set ?_ ?_ _) | (with_reducible refine Ext.drewN ?_ _) | (with_reducible refine Ext.drew ?_) | (with_reducible refine Ext.trans ?_ (by with_reducible assumption)) | go_size)))))) (RR.ext (Hid.out (by with_reducible assumption)) (by (repeat' (first | (with_reducible exact Ext.refl _) | (with_reducible assumption) | (with_reducible refine Ext.alloc ?_ _) | (with_reducible refine Ext.set ?_ ?_ _) | (with_reducible refine Ext.drewN ?_ _) | (with_reducible refine Ext.drew ?_) | (with_reducible refine Ext.trans ?_ (by with_reducible assumption)) | go_size))))) | (with_reducible exact RdSyK.ext (by with_reducible assumption) (by (repeat' (first | (with_reducible exact Ext.refl _) | (with_reducible assumption) | (with_reducible refine Ext.alloc ?_ _) | (with_reducible refine Ext.set ?_ ?_ _) | (with_reducible refine Ext.drewN ?_ _) | (with_reducible refine Ext.drew ?_) | (with_reducible refine Ext.trans ?_ (by with_reducible assumption)) | go_size)))) | (with_reducible exact RdSig.mk (by (first | (with_reducible exact RI.ext (Hid.out (by with_reducible assumption)) (by (repeat' (first | (with_reducible exact Ext.refl _) | (with_reducible assumption) | (with_reducible refine Ext.alloc ?_ _) | (with_reducible refine Ext.set ?_ ?_ _) | (with_reducible refine Ext.drewN ?_ _) | (with_reducible refine Ext.drew ?_) | (with_reducible refine Ext.trans ?_ (by with_reducible assumption)) | go_size))))))) | (with_reducible exact RdSig.ext (by with_reducible assumption) (by (repeat' (first | (with_reducible exact Ext.refl _) | (with_reducible assumption) | (with_reducible refine Ext.alloc ?_ _) | (with_reducible refine Ext.set ?_ ?_ _) | (with_reducible refine Ext.drewN ?_ _) | (with_reducible refine Ext.drew ?_) | (with_reducible refine Ext.trans ?_ (by with_reducible assumption)) | go_size)))))) (by (first | (first | (with_reducible exact RdI.mk (RI.ext (Hid.out (by with_reducible assumption)) (by (repeat' (first | (with_reducible exact Ext.refl _) | (with_reducible assumption) | (with_reducible refine Ext.alloc ?_ _) | (with_reducible refine Ext.set ?_ ?_ _) | (with_reducible refine Ext.drewN ?_ _) | (with_reducible refine Ext.drew ?_) | (with_reducible refine Ext.trans ?_ (by with_reducible assumption)) | go_size))))) | (with_reducible exact RdI.ext (by with_reducible assumption) (by (repeat' (first | (with_reducible exact Ext.refl _) | (with_reducible assumption) | (with_reducible refine Ext.alloc ?_ _) | (with_reducible refine Ext.set ?_ ?_ _) | (with_reducible refine Ext.drewN ?_ _) | (with_reducible refine Ext.drew ?_) | (with_reducible refine Ext.trans ?_ (by with_reducible assumption)) | go_size))))) | (with_reducible exact RdSyK.mk (by (first | (with_reducible exact RI.ext (Hid.out (by with_reducible assumption)) (by (repeat' (first | (with_reducible exact Ext.refl _) | (with_reducible assumption) | (with_reducible refine Ext.alloc ?_ _) | (with_reducible refine Ext.set ?_ ?_ _) | (with_reducible refine Ext.drewN ?_ _) | (with_reducible refine Ext.drew ?_) | (with_reducible refine Ext.trans ?_ (by with_reducible assumption)) | go_size)))))) (RR.ext (Hid.out (by with_reducible assumption)) (by (repeat' (first | (with_reducible exact Ext.refl _) | (with_reducible assumption) | (with_reducible refine Ext.alloc ?_ _) | (with_reducible refine Ext.set ?_ ?_ _) | (with_reducible refine Ext.drewN ?_ _) | (with_reducible refine Ext.drew ?_) | (with_reducible refine Ext.trans ?_ (by with_reducible assumption)) | go_size))))) | (with_reducible exact RdSyK.ext (by with_reducible assumption) (by (repeat' (first | (with_reducible exact Ext.refl _) | (with_reducible assumption) | (with_reducible refine Ext.alloc ?_ _) | (with_reducible refine Ext.set ?_ ?_ _) | (with_reducible refine Ext.drewN ?_ _) | (with_reducible refine Ext.drew ?_) | (with_reducible refine Ext.trans ?_ (by with_reducible assumption)) | go_size)))) | (with_reducible exact RdSig.mk (by (first | (with_reducible exact RI.ext (Hid.out (by with_reducible assumption)) (by (repeat' (first | (with_reducible exact Ext.refl _) | (with_reducible assumption) | (with_reducible refine Ext.alloc ?_ _) | (with_reducible refine Ext.set ?_ ?_ _) | (with_reducible refine Ext.drewN ?_ _) | (with_reducible refine Ext.drew ?_) | (with_reducible refine Ext.trans ?_ (by with_reducible assumption)) | go_size))))))) | (with_reducible exact RdSig.ext (by with_reducible assumption) (by (repeat' (first | (with_reducible exact Ext.refl _) | (with_reducible assumption) | (with_reducible refine Ext.alloc ?_ _) | (with_reducible refine Ext.set ?_ ?_ _) | (with_reducible refine Ext.drewN ?_ _) | (with_reducible refine Ext.drew ?_) | (with_reducible refine Ext.trans ?_ (by with_reducible assumption)) | go_size))))))).mono ?_); rintro e w2 ⟨rfl, hE2⟩; have hz2 := sz_of hE2; (try simp only [World.size_alloc, World.size_setCell, World.size_drew] at hz2); obtain ⟨hc2, hf2⟩ := bcell hE2; (try have hq2_0 : w.heap.size < w2.heap.size := by omega); (try have hq2_1 : w.heap.size + 1 < w2.heap.size := by omega); (try have hq2_2 : w.heap.size + 1 + 1 < w2.heap.size := by omega); (try have hq2_3 : w.heap.size + 1 + 1 + 1 < w2.heap.size := by omega); (try have hq2_4 : w.heap.size + 1 + 1 + 1 + 1 < w2.heap.size := by omega); (try have hq2_5 : w.heap.size + 1 + 1 + 1 + 1 + 1 < w2.heap.size := by omega); (try have hx2_1 : w1.heap.size < w2.heap.size := by omega)
      have hw0 : w2.cell? ⟨w.heap.size, 0, none⟩ = some (.slice A n c) := Ext.keep hE2 hs0
      have hw1 : w2.cell? ⟨w.heap.size, 1, none⟩ = some (.slice B m d) := Ext.keep hE2 hs1
      have hEo : Ext w w2 := by (repeat' (first | (with_reducible exact Ext.refl _) | (with_reducible assumption) | (with_reducible refine Ext.alloc ?_ _) | (with_reducible refine Ext.set ?_ ?_ _) | (with_reducible refine Ext.drewN ?_ _) | (with_reducible refine Ext.drew ?_) | (with_reducible refine Ext.trans ?_ (by with_reducible assumption)) | go_size))
      go_wp2_with (at_make; refine wpList_make_full _ rfl _ _ 110 rfl w2.heap.size 4 ib _ 1 Try.underlying110 hbi hbz hbs _ _ _ _ m rfl rfl rfl rfl (by rw [hbb]; omega) (by simp only [maxLen]; omega) (Nat.le_refl _) ?_)
      intro w3 hown0 hg3
      rw [madeBools] at hown0
      have hE3 : Ext w2 w3 := Ext.grown (Ext.refl _) hg3 (fun k hk => by cases hk)
      have HU0 := Lib.hid (show OwB w2.heap.size m w3 (List.replicate m false) from hown0)
      have hu3 : w2.heap.size < w3.heap.size := HU0.out.lt
      have hEo3 : Ext w w3 := Ext.trans hEo hE3
      have h30 := Ext.keep hE3 hw0
      have h31 := Ext.keep hE3 hw1
      clear hown0 hg3
      go_wp2_with (refine wpList_slice1 rfl (.tmp 27) 22 .i64 rfl i0 Try.underlying22 hii his rfl hq1 hcap.1 ?_)
      intro f' hf'
      have HDT := Lib.hid (RI.tail' HD.out hq1 hcap.1 hf')
      go_wp2_with fail
      (with_reducible refine (c_clone (RI.ext HDT.out hEo3)).mono ?_)
      rintro e w4 ⟨A4, n4, c4, rfl, hO4, hE4⟩
      have hl4 : n4 ≤ 59 := by have := hO4.len; rw [List.length_drop, HDL.out] at this; omega
      have hcp4 := hO4.cap
      have HU4 := Lib.hid (HU0.out.ext hE4)
      have HO4 := Lib.hid (OwW.ofOw hO4 hO4.cap)
      have HAT := Lib.hid (show UseAt s (useAll s t) (List.replicate m false) (t.drop 1) by rw [← HML.out]; exact UseAt.start HS.out HT.out.2.1.2)
      have hE24 : Ext w2 w4 := Ext.trans hE3 hE4
      have hD4 : w3.heap.size ≤ w4.heap.size := hE4.size
      clear hO4
      go_wp2_with fail
      go_loopw [6] (fun tv wr => ∃ A6 n6 c6, tv = .slice A6 n6 c6 ∧ n6 ≤ 780 ∧ (n6 ≤ c6 ∧ c6 ≤ 9223372036854775807) ∧ w3.heap.size ≤ wr.heap.size ∧ Hid (∃ us td, OwW w3.heap.size wr A6 n6 c6 td ∧ OwB w2.heap.size m wr us ∧ UseAt s (useAll s t) us td) ∧ Ext w2 wr) (fun tv wr => useMeas s.rs w2.heap.size m tv wr)
      case atStart => exact ⟨_, _, _, rfl, by omega, hcp4, hD4, Lib.hid ⟨_, _, HO4.out, HU4.out, HAT.out⟩, hE24⟩
      case round =>
        obtain ⟨A6, n6, c6, rfl, hn6, hc6, hD6, hST, hE6⟩ := hrel
        obtain ⟨wo, rfl⟩ : ∃ wo : World, wo = wr := ⟨_, rfl⟩
        obtain ⟨us, td, hW, hU, hAt⟩ := hST.out
        have HW := Lib.hid hW
        have HU := Lib.hid hU
        have HAt := Lib.hid hAt
        have hEw : Ext w wo := Ext.trans hEo hE6
        have hr0 := Ext.keep hE6 hw0
        have hr1 := Ext.keep hE6 hw1
        clear hST hW hU hAt
        by_cases hpos : 0 < n6
        · obtain ⟨b, o, x, rfl, hx, hcx⟩ := HW.out.head hpos
          have HX := Lib.hid hx
          have hpi : (0 : Int) < (n6 : Int) := by omega
          have HTD := Lib.hid (show UseAt s (useAll s t) us (x :: td.drop 1) by have h := HAt.out; rw [hx] at h; exact h)
          clear hx
          go_wp2_with (refine wpList_slice1 rfl (.tmp 36) 22 .i64 rfl i0 Try.underlying22 hii his rfl hpos hc6.1 ?_)
          intro f2 hf2
          have HW1 := Lib.hid (HW.out.tail' hpos hf2)
          have hcw := HW1.out.cap
          go_wp2_with fail
          go_loopw [6, 41] (fun tv kv wr => ∃ k : Nat, kv = .int .i64 k ∧ k ≤ m ∧ (∃ A7 n7 c7, tv = .slice A7 n7 c7 ∧ n7 ≤ 779 ∧ (n7 ≤ c7 ∧ c7 ≤ 9223372036854775807) ∧ w3.heap.size ≤ wr.heap.size ∧ Hid (∃ us' td', useRow s.rs x k (us, td.drop 1) = (us', td') ∧ OwW w3.heap.size wr A7 n7 c7 td' ∧ OwB w2.heap.size m wr us')) ∧ Ext w2 wr) (fun _ kv _ => m - (intOf kv).toNat)
          case atStart => exact ⟨0, rfl, Nat.zero_le _, ⟨_, _, _, rfl, by omega, hcw, hD6, Lib.hid ⟨_, _, rfl, HW1.out, HU.out⟩⟩, hE6⟩
          case round =>
            obtain ⟨k, rfl, hk, ⟨A7, n7, c7, rfl, hn7, hc7, hD7, hST⟩, hE7⟩ := hrel
            obtain ⟨us', td', hrow, hW, hU⟩ := hST.out
            have HROW := Lib.hid hrow
            have HW7 := Lib.hid hW
            have HU7 := Lib.hid hU
            have hEw7 : Ext w wr := Ext.trans hEo hE7
            have hz0 := Ext.keep hE7 hw0
            have hz1 := Ext.keep hE7 hw1
            clear hST hrow hW hU
            by_cases hlt : k < m
            · obtain ⟨b8, o8, r, A1, m1, c1, A2, m2, c2, rfl, hx, hd1w, hd2w, hr1', hr5, hcap1, hcap2⟩ := RR.at_ HB.out hlt
              have hd1 := Ext.keep hEw7 hd1w
              have hd2 := Ext.keep hEw7 hd2w
              have HRX := Lib.hid hx
              have hRP := HS.out.2.2 k r hx
              have HR2 := Lib.hid hr5
              have HR2L := Lib.hid hr5.len
              have hm1 : 0 < m1 := by have := hRP.1.2.1.1; rw [hr1'.len] at this; omega
              have hm2 : 0 < m2 := by have := hRP.2.1.2.1.1; rw [hr5.len] at this; omega
              have hm60 : m2 ≤ 60 := by have := hRP.2.1.2.1.2; rw [hr5.len] at this; omega
              obtain ⟨b1, o1, y, rfl, hy, hcyw⟩ := RI.at_ hr1' hm1
              rw [Nat.add_zero] at hcyw
              have hcy := Ext.keep hEw7 hcyw
              have HY := Lib.hid hy
              have hlt' : (k : Int) < (m : Int) := by omega
              have hk0 : (0 : Int) ≤ (k : Int) := by omega
              have hm1i : (0 : Int) < (m1 : Int) := by omega
              have hbl : b8 < wr.heap.size := World.block_lt_of_cell? wr _ hd1
              have hbl1 : b1 < wr.heap.size := World.block_lt_of_cell? wr _ hcy
              obtain ⟨bb, hbk, hcb, hfb⟩ := HU7.out.at_ hlt
              have hul : w2.heap.size < wr.heap.size := by omega
              have HBK := Lib.hid hbk
              clear hx hRP hr1' hr5 hcap1 hcap2 hy hbk hd1w hd2w hcyw
              by_cases hyx : y = x
              · subst hyx
                cases bb with
                | false =>
                  have HN := Lib.hid (useRow_hit HRX.out HROW.out HY.out HBK.out)
                  have hWu : w.heap.size ≤ w2.heap.size := sz_of hEo
                  go_wp2_with (at_builtin; go_loud (refine wpList_append_win _ rfl (.tmp 62) (.tmp 64) 22 rfl i0 Try.underlying22 hii hiz his hib (D := w3.heap.size) rfl (OwW.ext (OwW.setFar HW7.out hu3 _) (Ext.alloc (Ext.refl _) _)) rfl (RI.ext HR2.out (Ext.alloc (Ext.set hEw7 hWu _) _)) hm2 (by omega) (by go_size) ?_))
                  intro A9 c9 w9 hW9 hB9
                  have HW9 := Lib.hid hW9
                  have hcp9 := hW9.cap
                  have HU9 := Lib.hid (OwB.below (OwB.ext (OwB.set HU7.out k true) (Ext.alloc (Ext.refl _) _)) hB9 hu3)
                  have hE9 : Ext w2 w9 := Below.trans (Ext.alloc (Ext.set hE7 (Nat.le_refl _) _) _) (hB9.mono (Nat.le_of_lt hu3))
                  have hsz9 := hB9.size
                  have hl9 : n7 + m2 ≤ 779 := by
                    have h1 := (HTD.out.mid (k + 1)).1
                    have h2 := hW9.len
                    rw [HN.out] at h1
                    simp only at h1
                    rw [h2] at h1
                    exact h1
                  clear hW9
                  go_wp2
                  go_roundw
                  case rel => exact ⟨k + 1, by go_num, by omega, ⟨_, _, _, rfl, hl9, hcp9, (by simp [go_sem] at hsz9; omega), Lib.hid ⟨_, _, HN.out, HW9.out, HU9.out⟩⟩, hE9⟩
                  case measure => simp only [intOf]; omega
                | true =>
                  have HN := Lib.hid (useRow_miss (n := y) HRX.out HROW.out (fun h => by rw [HBK.out] at h; cases h.2))
                  go_wp2
                  go_roundw
                  case rel => exact ⟨k + 1, by go_num, by omega, ⟨_, _, _, rfl, hn7, hc7, by go_size, Lib.hid ⟨_, _, HN.out, OwW.ext HW7.out (by (repeat' (first | (with_reducible exact Ext.refl _) | (with_reducible assumption) | (with_reducible refine Ext.alloc ?_ _) | (with_reducible refine Ext.set ?_ ?_ _) | (with_reducible refine Ext.drewN ?_ _) | (with_reducible refine Ext.drew ?_) | (with_reducible refine Ext.trans ?_ (by with_reducible assumption)) | go_size))), OwB.ext HU7.out (by (repeat' (first | (with_reducible exact Ext.refl _) | (with_reducible assumption) | (with_reducible refine Ext.alloc ?_ _) | (with_reducible refine Ext.set ?_ ?_ _) | (with_reducible refine Ext.drewN ?_ _) | (with_reducible refine Ext.drew ?_) | (with_reducible refine Ext.trans ?_ (by with_reducible assumption)) | go_size)))⟩⟩, by (repeat' (first | (with_reducible exact Ext.refl _) | (with_reducible assumption) | (with_reducible refine Ext.alloc ?_ _) | (with_reducible refine Ext.set ?_ ?_ _) | (with_reducible refine Ext.drewN ?_ _) | (with_reducible refine Ext.drew ?_) | (with_reducible refine Ext.trans ?_ (by with_reducible assumption)) | go_size))⟩
                  case measure => simp only [intOf]; omega
              · have hyb : (y == x) = false := by simpa using hyx
                have HN := Lib.hid (useRow_miss (n := x) HRX.out HROW.out (fun h => by rw [HY.out] at h; exact hyx (Option.some.inj h.1)))
                go_wp2
                go_roundw
                case rel => exact ⟨k + 1, by go_num, by omega, ⟨_, _, _, rfl, hn7, hc7, by go_size, Lib.hid ⟨_, _, HN.out, OwW.ext HW7.out (by (repeat' (first | (with_reducible exact Ext.refl _) | (with_reducible assumption) | (with_reducible refine Ext.alloc ?_ _) | (with_reducible refine Ext.set ?_ ?_ _) | (with_reducible refine Ext.drewN ?_ _) | (with_reducible refine Ext.drew ?_) | (with_reducible refine Ext.trans ?_ (by with_reducible assumption)) | go_size))), OwB.ext HU7.out (by (repeat' (first | (with_reducible exact Ext.refl _) | (with_reducible assumption) | (with_reducible refine Ext.alloc ?_ _) | (with_reducible refine Ext.set ?_ ?_ _) | (with_reducible refine Ext.drewN ?_ _) | (with_reducible refine Ext.drew ?_) | (with_reducible refine Ext.trans ?_ (by with_reducible assumption)) | go_size)))⟩⟩, by (repeat' (first | (with_reducible exact Ext.refl _) | (with_reducible assumption) | (with_reducible refine Ext.alloc ?_ _) | (with_reducible refine Ext.set ?_ ?_ _) | (with_reducible refine Ext.drewN ?_ _) | (with_reducible refine Ext.drew ?_) | (with_reducible refine Ext.trans ?_ (by with_reducible assumption)) | go_size))⟩
                case measure => simp only [intOf]; omega
            · have hkm : k = m := by omega
              have hnx := HTD.out.next
              rw [HML.out, ← hkm, HROW.out] at hnx
              have HNX := Lib.hid hnx.1
              have hms : useMeas s.rs w2.heap.size m (.slice A7 n7 c7) wr < useMeas s.rs w2.heap.size m (.slice (some ⟨b, o, none⟩) n6 c6) wo := by
                rw [useMeas_eq HU7.out, useMeas_eq HU.out]
                have h2 := hnx.2
                have h3 := HW7.out.len
                have h4 := HW1.out.len
                simp only at h2
                omega
              clear hnx
              go_wp2
              go_roundw
              case rel => exact ⟨_, _, _, rfl, by omega, hc7, hD7, Lib.hid ⟨_, _, HW7.out, HU7.out, HNX.out⟩, hE7⟩
              case measure => exact hms
        · have hn0 : n6 = 0 := by omega
          subst hn0
          have htd : td = [] := List.length_eq_zero_iff.1 HW.out.len
          have HUA := Lib.hid (show useAll s t = us by have h := HAt.out; rw [htd] at h; exact h.stop)
          go_wp2_with fail
          go_loopw [10, 69] (fun ov kv wr => ∃ k : Nat, kv = .int .i64 k ∧ k ≤ m ∧ (∃ A7 n7 c7, ov = .slice A7 n7 c7 ∧ n7 ≤ k ∧ Hid (OwI wr wo.heap.size A7 n7 c7 (useOut us k))) ∧ Ext wo wr) (fun _ kv _ => m - (intOf kv).toNat)
          case atStart => exact ⟨0, rfl, Nat.zero_le _, ⟨none, 0, 0, rfl, Nat.le_refl _, Lib.hid ⟨by omega, World.ownsRow_nil _ _ _ _⟩⟩, Ext.refl _⟩
          case round =>
            obtain ⟨k, rfl, hk, ⟨A7, n7, c7, rfl, hn7, hO⟩, hE7⟩ := hrel
            have HO7 := Lib.hid hO.out
            have HU7 := Lib.hid (HU.out.ext hE7)
            have hEw7 : Ext w wr := Ext.trans hEw hE7
            have hsz7 := sz_of hE7
            clear hO
            by_cases hlt : k < m
            · obtain ⟨bb, hbk, hcb, hfb⟩ := HU7.out.at_ hlt
              have hlt' : (k : Int) < (m : Int) := by omega
              have hk0 : (0 : Int) ≤ (k : Int) := by omega
              have HBK := Lib.hid hbk
              clear hbk
              cases bb with
              | true =>
                have HN := Lib.hid (useOut_t HBK.out)
                go_wp2_with (at_builtin; go_loud (refine wpList_append_lies _ rfl (.tmp 75) (.tmp 77) 22 rfl wo.heap.size 2 i0 (.int .i64 0) 1 8 Try.underlying22 hii hiz his hib rfl (by decide) _ _ _ rfl (OwI.alloc HO7.out _).2 ⟨wr.heap.size, 0, none⟩ 1 1 [.int .i64 (k : Int)] rfl rfl (one_cells _ _ _) (one_one _) (by decide) (by unfold maxLen; omega) (by omega) (by go_size) _ rfl ?_))
                intro g4 cap wx hown hg hat hltg
                have HON := Lib.hid (show OwI wx wo.heap.size (some ⟨g4, 0, none⟩) (n7 + 1) cap (useOut us k ++ [(k : Int)]) from ⟨by omega, by simpa using hown⟩)
                have hob := OwI.ob2 HO7.out
                have hEx : Ext wo wx := Ext.grown (hE7.alloc _) hg (fun b hb => (hob b hb).1)
                clear hown hg hat hob
                go_wp2
                go_roundw
                case rel => exact ⟨k + 1, by go_num, by omega, ⟨_, _, _, rfl, by omega, Lib.hid (by rw [HN.out]; exact HON.out)⟩, hEx⟩
                case measure => simp only [intOf]; omega
              | false =>
                have HN := Lib.hid (useOut_f HBK.out)
                go_wp2
                go_roundw
                case rel => exact ⟨k + 1, by go_num, by omega, ⟨_, _, _, rfl, by omega, Lib.hid (by rw [HN.out]; exact HO7.out)⟩, hE7⟩
                case measure => simp only [intOf]; omega
            · have hkm : k = m := by omega
              subst hkm
              go_wp2
              go_ret
              exact ⟨_, _, _, rfl, by rw [HR.out, HUA.out, HML.out]; exact HO7.out.lower (sz_of hEw), Ext.trans hEw hE7⟩
theorem c_iUsableOf' {v0 v1 : Value} {s : Sy} {t oo : List Int} {w : World} (hv : oo = useV s t) (h0 : RdSyC w v0 s) (h1 : RdIc w v1 t) :
    Calls Try.prog 45 #[v0, v1] w (NewI w oo) := by
  subst hv
  exact c_iUsableOf h0 h1

end Go.Proofs.Ytccahngnnfohcaa
