/- SizePolys of both. -/
import Derived.Test.YtjfoppllenmndaaSizeP
-- rd: RdPl RdPs
namespace Go.Proofs.Ytjfoppllenmndaa
open Go.RowKit
set_option linter.unusedSimpArgs false
set_option linter.unusedVariables false

def sizeP (ar : List Int) : List Pl := ar.map fun n => ⟨1, List.replicate n.toNat 1⟩
def sizeO (ar : List Int) : List Pl := if sigOk ar = true then sizeP ar else []
theorem sizeP_succ {ar : List Int} {k : Nat} {n : Int} (h : ar[k]? = some n) : (sizeP ar).take (k + 1) = (sizeP ar).take k ++ [⟨1, List.replicate n.toNat 1⟩] := by
  have hk : (sizeP ar)[k]? = some ⟨1, List.replicate n.toNat 1⟩ := by unfold sizeP; rw [List.getElem?_map, h]; rfl
  rw [List.take_add_one, hk]; rfl
theorem sizeP_len (ar : List Int) : (sizeP ar).length = ar.length := by simp [sizeP]
theorem ownsRow_uniq {w : World} {B n size : Nat} {e : TypeId} {v : Value} {vs us : List Value} (h : w.ownsRow B e size v n vs) (k : w.ownsRow B e size v n us) : vs = us := by
  rcases h.2 with ⟨h1, h2⟩ | ⟨g, cap, cur, h1, _, hh, _, _, _, ht⟩
  · have a := h.1; have b := k.1
    subst h2
    rw [Nat.zero_mul] at a b
    rw [List.length_eq_zero_iff.1 a, List.length_eq_zero_iff.1 b]
  · rcases k.2 with ⟨k1, k2⟩ | ⟨g', cap', cur', k1, _, hh', _, _, _, ht'⟩
    · rw [h1] at k1; cases k1
    · rw [h1] at k1; cases k1
      rw [hh] at hh'; cases hh'
      rw [← ht, ← ht']
theorem OwD.ob {w : World} {B top n c : Nat} {A : Option Addr} {fs : List Pl} (h : OwD w B top A n c fs) : ∀ k, (Value.slice A n c).ownBlock = some k → B ≤ k ∧ k < w.heap.size := h.q.ob
theorem OwD.none0 {w : World} {B top : Nat} (hB : B ≤ w.heap.size) : OwD (w.alloc (.cells #[] 86)) B top (some ⟨w.heap.size, 0, none⟩) 0 0 [] :=
  ⟨⟨by omega, rfl⟩, [], World.ownsRow_made w #[] 0 hB (by decide) rfl, fun j f h => by simp at h, fun j b h => by omega⟩
theorem polys_info' : (Try.prog.info? 86).map (fun i => (i.zero, i.size, i.bytes)) = some (some (.agg #[.int .i64 0, .slice none 0 0]), 2, 32) := by kernel_rfl
def NewSz (w : World) (ps : List Pl) (e : Ending) (w' : World) : Prop := ∃ A n c, e = .returned (.slice A n c) ∧ OwD w' w.heap.size w'.heap.size A n c ps ∧ Ext w w'
theorem OwD.lower {w : World} {B B' top n c : Nat} {A : Option Addr} {fs : List Pl} (h : OwD w B top A n c fs) (hB : B' ≤ B) : OwD w B' top A n c fs := by
  obtain ⟨h1, vs, ho, hf, hd⟩ := h
  refine ⟨h1, vs, ⟨ho.1, ?_⟩, fun j f hj => ?_, hd⟩
  · rcases ho.2 with h2 | ⟨g, cap, cur, hv, hg, r⟩
    · exact .inl h2
    · exact .inr ⟨g, cap, cur, hv, Nat.le_trans hB hg, r⟩
  · obtain ⟨e1, A', c', e2, e3, e4⟩ := hf j f hj
    exact ⟨e1, A', c', e2, e3.lower hB, e4⟩
theorem OwD.cast {w : World} {B top n c : Nat} {A A' : Option Addr} {fs : List Pl} (h : OwD w B top A n c fs) (e : A = A') : OwD w B top A' n c fs := e ▸ h
theorem ext_top {w w' : World} {b : Nat} (h : b < w.heap.size) (k : Ext w w') : b < w'.heap.size := by have := k.size; omega
set_option maxRecDepth 100000 in
set_option maxHeartbeats 4000000 in
theorem c_iSizePolys {v0 : Value} {ar : List Int} {w : World} (h0 : RdSig w v0 ar) :
    Calls Try.prog 34 #[v0] w (NewSz w (sizeO ar)) := by
  obtain ⟨A0, n0, c0, rfl, ha⟩ := h0
  have hn0 := ha.le
  have HA := Lib.hid ha
  have HL := Lib.hid ha.len
  obtain ⟨i0, hii, hiz, his, hib⟩ := info_parts int64_info
  obtain ⟨i1, hji, hjz, hjs, hjb⟩ := info_parts polys_info'
  clear ha
  cases hs : sigOk ar with
  | false =>
    have HR := Lib.hid (show sizeO ar = [] by unfold sizeO; rw [hs]; rfl)
    go_enter Try.func34, Try.ntmps34
    go_wp2_with (go_at_call 67; (with_reducible refine (c_iSigOk (ar := ar) (by (first | (first | (with_reducible exact RdI.mk (RI.ext (Hid.out (by with_reducible assumption)) (by (repeat' (first | (with_reducible exact Ext.refl _) | (with_reducible assumption) | (with_reducible refine Ext.alloc ?_ _) | (with_reducible refine Ext.set ?_ ?_ _) | (with_reducible refine Ext.drewN ?_ _) | (with_reducible refine Ext.drew ?_) | (with_reducible refine Ext.trans ?_ (by with_reducible assumption)) | go_size))))) | (with_reducible exact RdI.ext (by with_reducible assumption) (by (repeat' (first | (with_reducible exact Ext.refl _) | (with_reducible assumption) | (with_reducible refine Ext.alloc ?_ _) | (with_reducible refine Ext.set ?_ ?_ _) | (with_reducible refine Ext.drewN ?_ _) | (with_reducible refine Ext.drew ?_) | (with_reducible refine Ext.trans ?_ (by with_reducible assumption)) | go_size))))) | (with_reducible exact RdPs.mk (RP.ext (Hid.out (by with_reducible assumption)) (by (repeat' (first | (with_reducible exact Ext.refl _) | (with_reducible assumption) | (with_reducible refine Ext.alloc ?_ _) | (with_reducible refine Ext.set ?_ ?_ _) | (with_reducible refine Ext.drewN ?_ _) | (with_reducible refine Ext.drew ?_) | (with_reducible refine Ext.trans ?_ (by with_reducible assumption)) | go_size))))) | (with_reducible exact RdPs.ext (by with_reducible assumption) (by (repeat' (first | (with_reducible exact Ext.refl _) | (with_reducible assumption) | (with_reducible refine Ext.alloc ?_ _) | (with_reducible refine Ext.set ?_ ?_ _) | (with_reducible refine Ext.drewN ?_ _) | (with_reducible refine Ext.drew ?_) | (with_reducible refine Ext.trans ?_ (by with_reducible assumption)) | go_size)))) | (with_reducible exact RdPl.mk (by (first | (with_reducible exact RI.ext (Hid.out (by with_reducible assumption)) (by (repeat' (first | (with_reducible exact Ext.refl _) | (with_reducible assumption) | (with_reducible refine Ext.alloc ?_ _) | (with_reducible refine Ext.set ?_ ?_ _) | (with_reducible refine Ext.drewN ?_ _) | (with_reducible refine Ext.drew ?_) | (with_reducible refine Ext.trans ?_ (by with_reducible assumption)) | go_size))))))) | (with_reducible exact RdPl.ext (by with_reducible assumption) (by (repeat' (first | (with_reducible exact Ext.refl _) | (with_reducible assumption) | (with_reducible refine Ext.alloc ?_ _) | (with_reducible refine Ext.set ?_ ?_ _) | (with_reducible refine Ext.drewN ?_ _) | (with_reducible refine Ext.drew ?_) | (with_reducible refine Ext.trans ?_ (by with_reducible assumption)) | go_size)))) | (with_reducible exact RdSig.mk (by (first | (with_reducible exact RI.ext (Hid.out (by with_reducible assumption)) (by (repeat' (first | (with_reducible exact Ext.refl _) | (with_reducible assumption) | (with_reducible refine Ext.alloc ?_ _) | (with_reducible refine Ext.set ?_ ?_ _) | (with_reducible refine Ext.drewN ?_ _) | (with_reducible refine Ext.drew ?_) | (with_reducible refine Ext.trans ?_ (by with_reducible assumption)) | go_size))))))) | (with_reducible exact RdSig.ext (by with_reducible assumption) (by (repeat' (first | (with_reducible exact Ext.refl _) | (with_reducible assumption) | (with_reducible refine Ext.alloc ?_ _) | (with_reducible refine Ext.set ?_ ?_ _) | (with_reducible refine Ext.drewN ?_ _) | (with_reducible refine Ext.drew ?_) | (with_reducible refine Ext.trans ?_ (by with_reducible assumption)) | go_size))))))).mono ?_); rintro e w1 ⟨rfl, hE1⟩; have hz1 := sz_of hE1; (try simp only [World.size_alloc, World.size_setCell, World.size_drew] at hz1); obtain ⟨hc1, hf1⟩ := bcell hE1; (try have hq1_0 : w.heap.size < w1.heap.size := by omega); (try have hq1_1 : w.heap.size + 1 < w1.heap.size := by omega); (try have hq1_2 : w.heap.size + 1 + 1 < w1.heap.size := by omega); (try have hq1_3 : w.heap.size + 1 + 1 + 1 < w1.heap.size := by omega); (try have hq1_4 : w.heap.size + 1 + 1 + 1 + 1 < w1.heap.size := by omega); (try have hq1_5 : w.heap.size + 1 + 1 + 1 + 1 + 1 < w1.heap.size := by omega))
    go_ret
    rw [HR.out]
    exact ⟨none, 0, 0, rfl, OwD.nil _ _ _, by (repeat' (first | (with_reducible exact Ext.refl _) | (with_reducible assumption) | (with_reducible refine Ext.alloc ?_ _) | (with_reducible refine Ext.set ?_ ?_ _) | (with_reducible refine Ext.drewN ?_ _) | (with_reducible refine Ext.drew ?_) | (with_reducible refine Ext.trans ?_ (by with_reducible assumption)) | go_size))⟩
  | true =>
    have HR := Lib.hid (show sizeO ar = sizeP ar by unfold sizeO; rw [if_pos hs])
    have hsp := sigOk_iff.1 hs
    have hn8 : n0 ≤ 8 := by rw [← HL.out]; exact hsp.2.1
    have HS := Lib.hid hsp.2.2
    clear hsp
    go_enter Try.func34, Try.ntmps34
    go_wp2_with (go_at_call 67; (with_reducible refine (c_iSigOk (ar := ar) (by (first | (first | (with_reducible exact RdI.mk (RI.ext (Hid.out (by with_reducible assumption)) (by (repeat' (first | (with_reducible exact Ext.refl _) | (with_reducible assumption) | (with_reducible refine Ext.alloc ?_ _) | (with_reducible refine Ext.set ?_ ?_ _) | (with_reducible refine Ext.drewN ?_ _) | (with_reducible refine Ext.drew ?_) | (with_reducible refine Ext.trans ?_ (by with_reducible assumption)) | go_size))))) | (with_reducible exact RdI.ext (by with_reducible assumption) (by (repeat' (first | (with_reducible exact Ext.refl _) | (with_reducible assumption) | (with_reducible refine Ext.alloc ?_ _) | (with_reducible refine Ext.set ?_ ?_ _) | (with_reducible refine Ext.drewN ?_ _) | (with_reducible refine Ext.drew ?_) | (with_reducible refine Ext.trans ?_ (by with_reducible assumption)) | go_size))))) | (with_reducible exact RdPs.mk (RP.ext (Hid.out (by with_reducible assumption)) (by (repeat' (first | (with_reducible exact Ext.refl _) | (with_reducible assumption) | (with_reducible refine Ext.alloc ?_ _) | (with_reducible refine Ext.set ?_ ?_ _) | (with_reducible refine Ext.drewN ?_ _) | (with_reducible refine Ext.drew ?_) | (with_reducible refine Ext.trans ?_ (by with_reducible assumption)) | go_size))))) | (with_reducible exact RdPs.ext (by with_reducible assumption) (by (repeat' (first | (with_reducible exact Ext.refl _) | (with_reducible assumption) | (with_reducible refine Ext.alloc ?_ _) | (with_reducible refine Ext.set ?_ ?_ _) | (with_reducible refine Ext.drewN ?_ _) | (with_reducible refine Ext.drew ?_) | (with_reducible refine Ext.trans ?_ (by with_reducible assumption)) | go_size)))) | (with_reducible exact RdPl.mk (by (first | (with_reducible exact RI.ext (Hid.out (by with_reducible assumption)) (by (repeat' (first | (with_reducible exact Ext.refl _) | (with_reducible assumption) | (with_reducible refine Ext.alloc ?_ _) | (with_reducible refine Ext.set ?_ ?_ _) | (with_reducible refine Ext.drewN ?_ _) | (with_reducible refine Ext.drew ?_) | (with_reducible refine Ext.trans ?_ (by with_reducible assumption)) | go_size))))))) | (with_reducible exact RdPl.ext (by with_reducible assumption) (by (repeat' (first | (with_reducible exact Ext.refl _) | (with_reducible assumption) | (with_reducible refine Ext.alloc ?_ _) | (with_reducible refine Ext.set ?_ ?_ _) | (with_reducible refine Ext.drewN ?_ _) | (with_reducible refine Ext.drew ?_) | (with_reducible refine Ext.trans ?_ (by with_reducible assumption)) | go_size)))) | (with_reducible exact RdSig.mk (by (first | (with_reducible exact RI.ext (Hid.out (by with_reducible assumption)) (by (repeat' (first | (with_reducible exact Ext.refl _) | (with_reducible assumption) | (with_reducible refine Ext.alloc ?_ _) | (with_reducible refine Ext.set ?_ ?_ _) | (with_reducible refine Ext.drewN ?_ _) | (with_reducible refine Ext.drew ?_) | (with_reducible refine Ext.trans ?_ (by with_reducible assumption)) | go_size))))))) | (with_reducible exact RdSig.ext (by with_reducible assumption) (by (repeat' (first | (with_reducible exact Ext.refl _) | (with_reducible assumption) | (with_reducible refine Ext.alloc ?_ _) | (with_reducible refine Ext.set ?_ ?_ _) | (with_reducible refine Ext.drewN ?_ _) | (with_reducible refine Ext.drew ?_) | (with_reducible refine Ext.trans ?_ (by with_reducible assumption)) | go_size))))))).mono ?_); rintro e w1 ⟨rfl, hE1⟩; have hz1 := sz_of hE1; (try simp only [World.size_alloc, World.size_setCell, World.size_drew] at hz1); obtain ⟨hc1, hf1⟩ := bcell hE1; (try have hq1_0 : w.heap.size < w1.heap.size := by omega); (try have hq1_1 : w.heap.size + 1 < w1.heap.size := by omega); (try have hq1_2 : w.heap.size + 1 + 1 < w1.heap.size := by omega); (try have hq1_3 : w.heap.size + 1 + 1 + 1 < w1.heap.size := by omega); (try have hq1_4 : w.heap.size + 1 + 1 + 1 + 1 < w1.heap.size := by omega); (try have hq1_5 : w.heap.size + 1 + 1 + 1 + 1 + 1 < w1.heap.size := by omega))
    obtain ⟨wb, hwb⟩ : ∃ wb, wb = w.alloc (.cells #[.slice A0 n0 c0] 33) := ⟨_, rfl⟩
    have hs0 : wb.cell? ⟨w.heap.size, 0, none⟩ = some (.slice A0 n0 c0) := by rw [hwb]; simp [go_sem]
    have hbs : w.heap.size + 1 = wb.heap.size := by rw [hwb]; simp [go_sem]
    have hEwb : Ext w wb := by rw [hwb]; (repeat' (first | (with_reducible exact Ext.refl _) | (with_reducible assumption) | (with_reducible refine Ext.alloc ?_ _) | (with_reducible refine Ext.set ?_ ?_ _) | (with_reducible refine Ext.drewN ?_ _) | (with_reducible refine Ext.drew ?_) | (with_reducible refine Ext.trans ?_ (by with_reducible assumption)) | go_size))
    have hEb1 : Ext wb w1 := by rw [hwb]; exact hE1
    have hs1 := Ext.keep hEb1 hs0
    have HBS := Lib.hid hbs
    clear hwb hbs
    go_wp2_with fail
    go_loopw [3, 13] (fun o i wr => ∃ k : Nat, i = .int .i64 k ∧ k ≤ n0 ∧ (∃ A c, o = .slice A k c ∧ Hid (OwD wr (w.heap.size + 1) wr.heap.size A k c ((sizeP ar).take k))) ∧ Ext wb wr) (fun _ i _ => n0 - (intOf i).toNat)
    case atStart => exact ⟨0, rfl, Nat.zero_le _, ⟨_, _, rfl, Lib.hid (by rw [List.take_zero]; exact OwD.nil _ _ _)⟩, hEb1⟩
    case round =>
      obtain ⟨k, rfl, hk, ⟨A, c, rfl, hO⟩, hE⟩ := hrel
      have hEw : Ext w wr := Ext.trans hEwb hE
      have hr0 := Ext.keep hE hs0
      by_cases hlt : k < n0
      · obtain ⟨b, o, z, rfl, hz, hcz⟩ := RI.at_ (RI.ext HA.out hEw) hlt
        have hzb := HS.out z (List.mem_of_getElem? hz)
        obtain ⟨m, rfl⟩ := Int.eq_ofNat_of_zero_le hzb.1
        have hm3 : m ≤ 3 := by omega
        have HZ := Lib.hid (sizeP_succ hz)
        have hki : (k : Int) < (n0 : Int) := by omega
        have hk0 : (0 : Int) ≤ (k : Int) := by omega
        have hbl : b < wr.heap.size := World.block_lt_of_cell? wr _ hcz
        have hwl : w.heap.size < wr.heap.size := World.block_lt_of_cell? wr _ hr0
        clear hz
        go_wp2_with fail
        obtain ⟨wo, rfl⟩ : ∃ wo : World, wo = wr := ⟨_, rfl⟩
        have P00 := PB.new wo 1 86
        go_loopw [19] (fun i wi => ∃ j : Nat, i = .int .i64 j ∧ j ≤ m ∧ Hid (∃ A cA, PB wo wi 1 A cA (List.replicate j 1))) (fun i _ => m - (intOf i).toNat)
        case atStart => exact ⟨0, rfl, Nat.zero_le _, Lib.hid ⟨none, 0, P00⟩⟩
        case round =>
          obtain ⟨j, rfl, hj, hP⟩ := hrel
          obtain ⟨A1, cA, P1⟩ := hP.out
          clear hP
          have hEi : Ext wo wr := P1.ex
          have hEwi : Ext w wr := Ext.trans hEw hEi
          have hi0 := Ext.keep hEi hr0
          have hiz' := Ext.keep hEi hcz
          have h11 := P1.c1
          have h10 := P1.c0
          have h1f := P1.fr
          have h1l := P1.lt
          have hsz := hEi.size
          rw [List.length_replicate] at h11
          by_cases hjm : j < m
          · have HP1 := Lib.hid P1
            have HO1 := Lib.hid (show OwI wr (wo.heap.size + 1) A1 j cA (List.replicate j 1) by have := P1.oA; rwa [List.length_replicate] at this)
            clear P1
            have hjmi : (j : Int) < (m : Int) := by omega
            have hj0 : (0 : Int) ≤ (j : Int) := by omega
            go_wp2_with (at_builtin; go_loud (refine wpList_append_lies _ rfl (.tmp 22) (.tmp 23) 22 rfl (wo.heap.size + 1) 2 i0 (.int .i64 0) 1 8 Try.underlying22 hii hiz his hib rfl (by decide) _ _ _ rfl (OwI.alloc HO1.out _).2 ⟨wr.heap.size, 0, none⟩ 1 1 [.int .i64 1] rfl rfl (one_cells _ _ _) (one_one _) (by decide) (by unfold maxLen; omega) (by omega) (by go_size) _ rfl ?_))
            intro g cap wx hown hg hat hltg
            have HFar := Lib.hid (PB.far HP1.out (by rw [List.length_replicate]; exact hg))
            have hx0 : wx.cell? ⟨wo.heap.size, 1, none⟩ = some (.slice A1 j cA) := (HFar.out.1 1).trans h11
            have hxf : ∀ i, wx.frozen? ⟨wo.heap.size, i, none⟩ = false := HFar.out.2
            have hP4 := PB.push HP1.out (y := 1) (by rw [List.length_replicate]; omega) (by rw [List.length_replicate, List.map_replicate]; exact hown) (by rw [List.length_replicate]; exact hg) (by rw [List.length_replicate]; exact hat.imp id (fun e => e.trans (by simp [go_sem]))) hltg
            rw [List.length_replicate, ← List.replicate_succ'] at hP4
            have HP4 := Lib.hid hP4
            clear hown hg hat hP4
            go_wp2
            go_roundw
            case rel => exact ⟨j + 1, by go_num, by omega, Lib.hid ⟨_, _, HP4.out⟩⟩
            case measure => simp only [intOf]; omega
          · have hjm' : j = m := by omega
            subst hjm'
            have hO2 := hO.out.ext hEi
            have hob := hO2.ob
            have HO2 := Lib.hid hO2
            have HV := Lib.hid (show OwI wr (wo.heap.size + 1) A1 j cA (List.replicate j 1) by have := P1.oA; rwa [List.length_replicate] at this)
            have hbd := HV.out.bd
            have hob0 := hO.out.ob
            have hfar : ∀ b o s, A1 = some ⟨b, o, s⟩ → (Value.slice A k c).ownBlock ≠ some b := fun b o s e e2 => by have := (hbd b o s e).1; have := (hob0 b e2).2; omega
            have HFAR := Lib.hid hfar
            have HBD := Lib.hid hbd
            obtain ⟨⟨hn9, hl9⟩, vs, ho9, hf9, hd9⟩ := hO2.ext ((Ext.refl wr).alloc (.cells #[.int .i64 1, .slice A1 j cA] 86))
            have HO9 := Lib.hid ho9
            clear P1 hO2 hfar hbd hob0 ho9 hf9 hd9
            have hji' : (j : Int) ≤ (j : Int) := Int.le_refl _
            go_wp2_with (at_builtin; go_loud (refine wpList_append_lies _ rfl (.tmp 27) (.tmp 29) 58 rfl (w.heap.size + 1) 86 i1 (.agg #[.int .i64 0, .slice none 0 0]) 2 32 Try.underlying58 hji hjz hjs hjb rfl (by decide) _ k vs rfl HO9.out ⟨wr.heap.size, 0, none⟩ 1 1 [.int .i64 1, .slice A1 j cA] rfl rfl (two_cells' (by simp [go_sem]) _ _ _) (two_one _ _ _ _) (by decide) (by unfold maxLen; omega) (by omega) (by go_size) _ rfl ?_))
            intro g cap wx hown hg hat hltg
            have HQ := Lib.hid (OwD.push (f := ⟨1, List.replicate j 1⟩) (top' := wx.heap.size) (A' := A1) (c' := cA) HO2.out (by omega) (by rw [List.length_replicate]; exact HV.out.lower (by omega))
              (fun b o s e => ⟨by have := (HBD.out b o s e).1; omega, by have h1 := (HBD.out b o s e).2; have h2 := hg.size; simp [go_sem] at h2; omega⟩) (by have h2 := hg.size; simp [go_sem] at h2; omega) HFAR.out
              (fun us hu => by have e := ownsRow_uniq (World.ownsRow.alloc hu (.cells #[.int .i64 1, .slice A1 j cA] 86)) HO9.out; subst e; rw [List.length_replicate]; exact hown) hg (hat.imp id (fun e => e.trans (by simp [go_sem]))))
            have hE9 : Ext wb wx := Ext.grown ((Ext.trans hE hEi).alloc _) hg (fun b hb => by have := (hob b hb).1; have := HBS.out; omega)
            clear hown hg hat
            go_wp2
            go_roundw
            case rel => exact ⟨k + 1, by go_num, by omega, ⟨_, _, rfl, Lib.hid (by rw [HZ.out]; exact HQ.out)⟩, hE9⟩
            case measure => simp only [intOf]; omega
      · have hkn : k = n0 := by omega
        have HT := Lib.hid (show (sizeP ar).take k = sizeP ar from List.take_of_length_le (by rw [sizeP_len, HL.out]; omega))
        go_wp2
        go_ret
        rw [HR.out]
        exact ⟨_, _, _, rfl, by rw [← HT.out]; exact hO.out.lower (Nat.le_succ _), hEw⟩
set_option maxRecDepth 100000 in
set_option maxHeartbeats 4000000 in
theorem c_sSizePolys {v0 : Value} {ar : List Int} {w : World} (h0 : RdSig w v0 ar) :
    Calls Try.prog 32 #[v0] w (NewSz w (sizeO ar)) := by
  obtain ⟨A0, n0, c0, rfl, ha⟩ := h0
  have hn0 := ha.le
  have HA := Lib.hid ha
  have HL := Lib.hid ha.len
  obtain ⟨i0, hii, hiz, his, hib⟩ := info_parts int64_info
  obtain ⟨i1, hji, hjz, hjs, hjb⟩ := info_parts polys_info'
  clear ha
  cases hs : sigOk ar with
  | false =>
    have HR := Lib.hid (show sizeO ar = [] by unfold sizeO; rw [hs]; rfl)
    go_enter Try.func32, Try.ntmps32
    go_wp2_with (go_at_call 66; (with_reducible refine (c_sSigOk (ar := ar) (by (first | (first | (with_reducible exact RdI.mk (RI.ext (Hid.out (by with_reducible assumption)) (by (repeat' (first | (with_reducible exact Ext.refl _) | (with_reducible assumption) | (with_reducible refine Ext.alloc ?_ _) | (with_reducible refine Ext.set ?_ ?_ _) | (with_reducible refine Ext.drewN ?_ _) | (with_reducible refine Ext.drew ?_) | (with_reducible refine Ext.trans ?_ (by with_reducible assumption)) | go_size))))) | (with_reducible exact RdI.ext (by with_reducible assumption) (by (repeat' (first | (with_reducible exact Ext.refl _) | (with_reducible assumption) | (with_reducible refine Ext.alloc ?_ _) | (with_reducible refine Ext.set ?_ ?_ _) | (with_reducible refine Ext.drewN ?_ _) | (with_reducible refine Ext.drew ?_) | (with_reducible refine Ext.trans ?_ (by with_reducible assumption)) | go_size))))) | (with_reducible exact RdPs.mk (RP.ext (Hid.out (by with_reducible assumption)) (by (repeat' (first | (with_reducible exact Ext.refl _) | (with_reducible assumption) | (with_reducible refine Ext.alloc ?_ _) | (with_reducible refine Ext.set ?_ ?_ _) | (with_reducible refine Ext.drewN ?_ _) | (with_reducible refine Ext.drew ?_) | (with_reducible refine Ext.trans ?_ (by with_reducible assumption)) | go_size))))) | (with_reducible exact RdPs.ext (by with_reducible assumption) (by (repeat' (first | (with_reducible exact Ext.refl _) | (with_reducible assumption) | (with_reducible refine Ext.alloc ?_ _) | (with_reducible refine Ext.set ?_ ?_ _) | (with_reducible refine Ext.drewN ?_ _) | (with_reducible refine Ext.drew ?_) | (with_reducible refine Ext.trans ?_ (by with_reducible assumption)) | go_size)))) | (with_reducible exact RdPl.mk (by (first | (with_reducible exact RI.ext (Hid.out (by with_reducible assumption)) (by (repeat' (first | (with_reducible exact Ext.refl _) | (with_reducible assumption) | (with_reducible refine Ext.alloc ?_ _) | (with_reducible refine Ext.set ?_ ?_ _) | (with_reducible refine Ext.drewN ?_ _) | (with_reducible refine Ext.drew ?_) | (with_reducible refine Ext.trans ?_ (by with_reducible assumption)) | go_size))))))) | (with_reducible exact RdPl.ext (by with_reducible assumption) (by (repeat' (first | (with_reducible exact Ext.refl _) | (with_reducible assumption) | (with_reducible refine Ext.alloc ?_ _) | (with_reducible refine Ext.set ?_ ?_ _) | (with_reducible refine Ext.drewN ?_ _) | (with_reducible refine Ext.drew ?_) | (with_reducible refine Ext.trans ?_ (by with_reducible assumption)) | go_size)))) | (with_reducible exact RdSig.mk (by (first | (with_reducible exact RI.ext (Hid.out (by with_reducible assumption)) (by (repeat' (first | (with_reducible exact Ext.refl _) | (with_reducible assumption) | (with_reducible refine Ext.alloc ?_ _) | (with_reducible refine Ext.set ?_ ?_ _) | (with_reducible refine Ext.drewN ?_ _) | (with_reducible refine Ext.drew ?_) | (with_reducible refine Ext.trans ?_ (by with_reducible assumption)) | go_size))))))) | (with_reducible exact RdSig.ext (by with_reducible assumption) (by (repeat' (first | (with_reducible exact Ext.refl _) | (with_reducible assumption) | (with_reducible refine Ext.alloc ?_ _) | (with_reducible refine Ext.set ?_ ?_ _) | (with_reducible refine Ext.drewN ?_ _) | (with_reducible refine Ext.drew ?_) | (with_reducible refine Ext.trans ?_ (by with_reducible assumption)) | go_size))))))).mono ?_); rintro e w1 ⟨rfl, hE1⟩; have hz1 := sz_of hE1; (try simp only [World.size_alloc, World.size_setCell, World.size_drew] at hz1); obtain ⟨hc1, hf1⟩ := bcell hE1; (try have hq1_0 : w.heap.size < w1.heap.size := by omega); (try have hq1_1 : w.heap.size + 1 < w1.heap.size := by omega); (try have hq1_2 : w.heap.size + 1 + 1 < w1.heap.size := by omega); (try have hq1_3 : w.heap.size + 1 + 1 + 1 < w1.heap.size := by omega); (try have hq1_4 : w.heap.size + 1 + 1 + 1 + 1 < w1.heap.size := by omega); (try have hq1_5 : w.heap.size + 1 + 1 + 1 + 1 + 1 < w1.heap.size := by omega))
    go_ret
    rw [HR.out]
    exact ⟨_, 0, 0, rfl, ((OwD.none0 (w := w.alloc (.cells #[.slice A0 n0 c0] 33)) (by simp [go_sem])).ext hE1).cast (by simp [go_sem]), by (repeat' (first | (with_reducible exact Ext.refl _) | (with_reducible assumption) | (with_reducible refine Ext.alloc ?_ _) | (with_reducible refine Ext.set ?_ ?_ _) | (with_reducible refine Ext.drewN ?_ _) | (with_reducible refine Ext.drew ?_) | (with_reducible refine Ext.trans ?_ (by with_reducible assumption)) | go_size))⟩
  | true =>
    have HR := Lib.hid (show sizeO ar = sizeP ar by unfold sizeO; rw [if_pos hs])
    have hsp := sigOk_iff.1 hs
    have hn8 : n0 ≤ 8 := by rw [← HL.out]; exact hsp.2.1
    have HS := Lib.hid hsp.2.2
    clear hsp
    go_enter Try.func32, Try.ntmps32
    go_wp2_with (go_at_call 66; (with_reducible refine (c_sSigOk (ar := ar) (by (first | (first | (with_reducible exact RdI.mk (RI.ext (Hid.out (by with_reducible assumption)) (by (repeat' (first | (with_reducible exact Ext.refl _) | (with_reducible assumption) | (with_reducible refine Ext.alloc ?_ _) | (with_reducible refine Ext.set ?_ ?_ _) | (with_reducible refine Ext.drewN ?_ _) | (with_reducible refine Ext.drew ?_) | (with_reducible refine Ext.trans ?_ (by with_reducible assumption)) | go_size))))) | (with_reducible exact RdI.ext (by with_reducible assumption) (by (repeat' (first | (with_reducible exact Ext.refl _) | (with_reducible assumption) | (with_reducible refine Ext.alloc ?_ _) | (with_reducible refine Ext.set ?_ ?_ _) | (with_reducible refine Ext.drewN ?_ _) | (with_reducible refine Ext.drew ?_) | (with_reducible refine Ext.trans ?_ (by with_reducible assumption)) | go_size))))) | (with_reducible exact RdPs.mk (RP.ext (Hid.out (by with_reducible assumption)) (by (repeat' (first | (with_reducible exact Ext.refl _) | (with_reducible assumption) | (with_reducible refine Ext.alloc ?_ _) | (with_reducible refine Ext.set ?_ ?_ _) | (with_reducible refine Ext.drewN ?_ _) | (with_reducible refine Ext.drew ?_) | (with_reducible refine Ext.trans ?_ (by with_reducible assumption)) | go_size))))) | (with_reducible exact RdPs.ext (by with_reducible assumption) (by (repeat' (first | (with_reducible exact Ext.refl _) | (with_reducible assumption) | (with_reducible refine Ext.alloc ?_ _) | (with_reducible refine Ext.set ?_ ?_ _) | (with_reducible refine Ext.drewN ?_ _) | (with_reducible refine Ext.drew ?_) | (with_reducible refine Ext.trans ?_ (by with_reducible assumption)) | go_size)))) | (with_reducible exact RdPl.mk (by (first | (with_reducible exact RI.ext (Hid.out (by with_reducible assumption)) (by (repeat' (first | (with_reducible exact Ext.refl _) | (with_reducible assumption) | (with_reducible refine Ext.alloc ?_ _) | (with_reducible refine Ext.set ?_ ?_ _) | (with_reducible refine Ext.drewN ?_ _) | (with_reducible refine Ext.drew ?_) | (with_reducible refine Ext.trans ?_ (by with_reducible assumption)) | go_size))))))) | (with_reducible exact RdPl.ext (by with_reducible assumption) (by (repeat' (first | (with_reducible exact Ext.refl _) | (with_reducible assumption) | (with_reducible refine Ext.alloc ?_ _) | (with_reducible refine Ext.set ?_ ?_ _) | (with_reducible refine Ext.drewN ?_ _) | (with_reducible refine Ext.drew ?_) | (with_reducible refine Ext.trans ?_ (by with_reducible assumption)) | go_size)))) | (with_reducible exact RdSig.mk (by (first | (with_reducible exact RI.ext (Hid.out (by with_reducible assumption)) (by (repeat' (first | (with_reducible exact Ext.refl _) | (with_reducible assumption) | (with_reducible refine Ext.alloc ?_ _) | (with_reducible refine Ext.set ?_ ?_ _) | (with_reducible refine Ext.drewN ?_ _) | (with_reducible refine Ext.drew ?_) | (with_reducible refine Ext.trans ?_ (by with_reducible assumption)) | go_size))))))) | (with_reducible exact RdSig.ext (by with_reducible assumption) (by (repeat' (first | (with_reducible exact Ext.refl _) | (with_reducible assumption) | (with_reducible refine Ext.alloc ?_ _) | (with_reducible refine Ext.set ?_ ?_ _) | (with_reducible refine Ext.drewN ?_ _) | (with_reducible refine Ext.drew ?_) | (with_reducible refine Ext.trans ?_ (by with_reducible assumption)) | go_size))))))).mono ?_); rintro e w1 ⟨rfl, hE1⟩; have hz1 := sz_of hE1; (try simp only [World.size_alloc, World.size_setCell, World.size_drew] at hz1); obtain ⟨hc1, hf1⟩ := bcell hE1; (try have hq1_0 : w.heap.size < w1.heap.size := by omega); (try have hq1_1 : w.heap.size + 1 < w1.heap.size := by omega); (try have hq1_2 : w.heap.size + 1 + 1 < w1.heap.size := by omega); (try have hq1_3 : w.heap.size + 1 + 1 + 1 < w1.heap.size := by omega); (try have hq1_4 : w.heap.size + 1 + 1 + 1 + 1 < w1.heap.size := by omega); (try have hq1_5 : w.heap.size + 1 + 1 + 1 + 1 + 1 < w1.heap.size := by omega))
    obtain ⟨wb, hwb⟩ : ∃ wb, wb = w.alloc (.cells #[.slice A0 n0 c0] 33) := ⟨_, rfl⟩
    have hs0 : wb.cell? ⟨w.heap.size, 0, none⟩ = some (.slice A0 n0 c0) := by rw [hwb]; simp [go_sem]
    have hbs : w.heap.size + 1 = wb.heap.size := by rw [hwb]; simp [go_sem]
    have hEwb : Ext w wb := by rw [hwb]; (repeat' (first | (with_reducible exact Ext.refl _) | (with_reducible assumption) | (with_reducible refine Ext.alloc ?_ _) | (with_reducible refine Ext.set ?_ ?_ _) | (with_reducible refine Ext.drewN ?_ _) | (with_reducible refine Ext.drew ?_) | (with_reducible refine Ext.trans ?_ (by with_reducible assumption)) | go_size))
    have hEb1 : Ext wb w1 := by rw [hwb]; exact Ext.trans ((Ext.refl _).alloc _) hE1
    have hs1 := Ext.keep hEb1 hs0
    have HBS := Lib.hid hbs
    clear hwb hbs
    go_wp2_with fail
    go_loopw [3, 4] (fun o i wr => ∃ k : Nat, i = .int .i64 k ∧ k ≤ n0 ∧ (∃ A c, o = .slice A k c ∧ Hid (OwD wr (w.heap.size + 1) wr.heap.size A k c ((sizeP ar).take k))) ∧ Ext wb wr) (fun _ i _ => n0 - (intOf i).toNat)
    case atStart => exact ⟨0, rfl, Nat.zero_le _, ⟨_, _, rfl, Lib.hid (by rw [List.take_zero]; exact ((OwD.none0 (w := w.alloc (.cells #[.slice A0 n0 c0] 33)) (by simp [go_sem])).ext hE1).cast (by simp [go_sem]))⟩, hEb1⟩
    case round =>
      obtain ⟨k, rfl, hk, ⟨A, c, rfl, hO⟩, hE⟩ := hrel
      have hEw : Ext w wr := Ext.trans hEwb hE
      have hr0 := Ext.keep hE hs0
      by_cases hlt : k < n0
      · obtain ⟨b, o, z, rfl, hz, hcz⟩ := RI.at_ (RI.ext HA.out hEw) hlt
        have hzb := HS.out z (List.mem_of_getElem? hz)
        obtain ⟨m, rfl⟩ := Int.eq_ofNat_of_zero_le hzb.1
        have hm3 : m ≤ 3 := by omega
        have HZ := Lib.hid (sizeP_succ hz)
        have hki : (k : Int) < (n0 : Int) := by omega
        have hk0 : (0 : Int) ≤ (k : Int) := by omega
        have hbl : b < wr.heap.size := World.block_lt_of_cell? wr _ hcz
        have hwl : w.heap.size < wr.heap.size := World.block_lt_of_cell? wr _ hr0
        clear hz
        go_wp2_with fail
        obtain ⟨wo, rfl⟩ : ∃ wo : World, wo = wr := ⟨_, rfl⟩
        have P00 := PB.new wo 1 86
        go_loopw [6] (fun i wi => ∃ j : Nat, i = .int .i64 j ∧ j ≤ m ∧ Hid (∃ A cA, PB wo wi 1 A cA (List.replicate j 1))) (fun i _ => m - (intOf i).toNat)
        case atStart => exact ⟨0, rfl, Nat.zero_le _, Lib.hid ⟨none, 0, P00⟩⟩
        case round =>
          obtain ⟨j, rfl, hj, hP⟩ := hrel
          obtain ⟨A1, cA, P1⟩ := hP.out
          clear hP
          have hEi : Ext wo wr := P1.ex
          have hEwi : Ext w wr := Ext.trans hEw hEi
          have hi0 := Ext.keep hEi hr0
          have hiz' := Ext.keep hEi hcz
          have h11 := P1.c1
          have h10 := P1.c0
          have h1f := P1.fr
          have h1l := P1.lt
          have hsz := hEi.size
          rw [List.length_replicate] at h11
          by_cases hjm : j < m
          · have HP1 := Lib.hid P1
            have HO1 := Lib.hid (show OwI wr (wo.heap.size + 1) A1 j cA (List.replicate j 1) by have := P1.oA; rwa [List.length_replicate] at this)
            clear P1
            have hjmi : (j : Int) < (m : Int) := by omega
            have hj0 : (0 : Int) ≤ (j : Int) := by omega
            go_wp2_with (at_builtin; go_loud (refine wpList_append_lies _ rfl (.tmp 30) (.tmp 31) 22 rfl (wo.heap.size + 1) 2 i0 (.int .i64 0) 1 8 Try.underlying22 hii hiz his hib rfl (by decide) _ _ _ rfl (OwI.alloc HO1.out _).2 ⟨wr.heap.size, 0, none⟩ 1 1 [.int .i64 1] rfl rfl (one_cells _ _ _) (one_one _) (by decide) (by unfold maxLen; omega) (by omega) (by go_size) _ rfl ?_))
            intro g cap wx hown hg hat hltg
            have HFar := Lib.hid (PB.far HP1.out (by rw [List.length_replicate]; exact hg))
            have hx0 : wx.cell? ⟨wo.heap.size, 1, none⟩ = some (.slice A1 j cA) := (HFar.out.1 1).trans h11
            have hxf : ∀ i, wx.frozen? ⟨wo.heap.size, i, none⟩ = false := HFar.out.2
            have hP4 := PB.push HP1.out (y := 1) (by rw [List.length_replicate]; omega) (by rw [List.length_replicate, List.map_replicate]; exact hown) (by rw [List.length_replicate]; exact hg) (by rw [List.length_replicate]; exact hat.imp id (fun e => e.trans (by simp [go_sem]))) hltg
            rw [List.length_replicate, ← List.replicate_succ'] at hP4
            have HP4 := Lib.hid hP4
            clear hown hg hat hP4
            go_wp2
            go_roundw
            case rel => exact ⟨j + 1, by go_num, by omega, Lib.hid ⟨_, _, HP4.out⟩⟩
            case measure => simp only [intOf]; omega
          · have hjm' : j = m := by omega
            subst hjm'
            have hO2 := hO.out.ext hEi
            have hob := hO2.ob
            have HO2 := Lib.hid hO2
            have HV := Lib.hid (show OwI wr (wo.heap.size + 1) A1 j cA (List.replicate j 1) by have := P1.oA; rwa [List.length_replicate] at this)
            have hbd := HV.out.bd
            have hob0 := hO.out.ob
            have hfar : ∀ b o s, A1 = some ⟨b, o, s⟩ → (Value.slice A k c).ownBlock ≠ some b := fun b o s e e2 => by have := (hbd b o s e).1; have := (hob0 b e2).2; omega
            have HFAR := Lib.hid hfar
            have HBD := Lib.hid hbd
            obtain ⟨⟨hn9, hl9⟩, vs, ho9, hf9, hd9⟩ := hO2.ext ((Ext.refl wr).alloc (.cells #[.int .i64 1, .slice A1 j cA] 86))
            have HO9 := Lib.hid ho9
            clear P1 hO2 hfar hbd hob0 ho9 hf9 hd9
            have hji' : (j : Int) ≤ (j : Int) := Int.le_refl _
            go_wp2_with (at_builtin; go_loud (refine wpList_append_lies _ rfl (.tmp 34) (.tmp 36) 58 rfl (w.heap.size + 1) 86 i1 (.agg #[.int .i64 0, .slice none 0 0]) 2 32 Try.underlying58 hji hjz hjs hjb rfl (by decide) _ k vs rfl HO9.out ⟨wr.heap.size, 0, none⟩ 1 1 [.int .i64 1, .slice A1 j cA] rfl rfl (two_cells' (by simp [go_sem]) _ _ _) (two_one _ _ _ _) (by decide) (by unfold maxLen; omega) (by omega) (by go_size) _ rfl ?_))
            intro g cap wx hown hg hat hltg
            have HQ := Lib.hid (OwD.push (f := ⟨1, List.replicate j 1⟩) (top' := wx.heap.size) (A' := A1) (c' := cA) HO2.out (by omega) (by rw [List.length_replicate]; exact HV.out.lower (by omega))
              (fun b o s e => ⟨by have := (HBD.out b o s e).1; omega, by have h1 := (HBD.out b o s e).2; have h2 := hg.size; simp [go_sem] at h2; omega⟩) (by have h2 := hg.size; simp [go_sem] at h2; omega) HFAR.out
              (fun us hu => by have e := ownsRow_uniq (World.ownsRow.alloc hu (.cells #[.int .i64 1, .slice A1 j cA] 86)) HO9.out; subst e; rw [List.length_replicate]; exact hown) hg (hat.imp id (fun e => e.trans (by simp [go_sem]))))
            have hE9 : Ext wb wx := Ext.grown ((Ext.trans hE hEi).alloc _) hg (fun b hb => by have := (hob b hb).1; have := HBS.out; omega)
            clear hown hg hat
            go_wp2
            go_roundw
            case rel => exact ⟨k + 1, by go_num, by omega, ⟨_, _, rfl, Lib.hid (by rw [HZ.out]; exact HQ.out)⟩, hE9⟩
            case measure => simp only [intOf]; omega
      · have hkn : k = n0 := by omega
        have HT := Lib.hid (show (sizeP ar).take k = sizeP ar from List.take_of_length_le (by rw [sizeP_len, HL.out]; omega))
        go_wp2
        go_ret
        rw [HR.out]
        exact ⟨_, _, _, rfl, by rw [← HT.out]; exact hO.out.lower (Nat.le_succ _), hEw⟩

end Go.Proofs.Ytjfoppllenmndaa
