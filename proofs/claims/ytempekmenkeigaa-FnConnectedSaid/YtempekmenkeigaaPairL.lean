/- The pairs of a system: of both. (printed by genPL.py) -/
import Derived.Test.YtempekmenkeigaaDepJ
import Derived.Test.YtempekmenkeigaaSysOk
-- rd: RdSyK RdDp RdDq
namespace Go.Proofs.Ytempekmenkeigaa
open Go.RowKit
set_option linter.unusedSimpArgs false
set_option linter.unusedVariables false

/-- The pairs at the first places of a rule. -/
noncomputable def prR (s : Sy) (r : Ru) (k : Nat) : Nat → List DepP
  | 0 => []
  | a + 1 => prR s r k a ++ (match r.r[a]? with | some x => (depOf s r k a x).toList | none => [])
/-- The pairs of the first rules. -/
noncomputable def prS (s : Sy) : Nat → List DepP
  | 0 => []
  | k + 1 => prS s k ++ (match s.rs[k]? with | some r => prR s r k r.r.length | none => [])
noncomputable def prAll (s : Sy) : List DepP := prS s s.rs.length
noncomputable def prV (s : Sy) : List DepP := if sysOk s = true then (if 64 < (prAll s).length then [] else prAll s) else []
noncomputable def prB (s : Sy) : Bool := sysOk s && decide ((prAll s).length ≤ 64)
theorem prR_none {s : Sy} {r : Ru} {k a : Nat} {x : Int} (hx : r.r[a]? = some x) (h : depOf s r k a x = none) : prR s r k (a + 1) = prR s r k a := by
  show prR s r k a ++ _ = _; rw [hx]; simp [h]
theorem prR_some {s : Sy} {r : Ru} {k a : Nat} {x : Int} {q : DepP} (hx : r.r[a]? = some x) (h : depOf s r k a x = some q) : prR s r k (a + 1) = prR s r k a ++ [q] := by
  show prR s r k a ++ _ = _; rw [hx]; simp [h]
theorem prS_succ {s : Sy} {r : Ru} {k : Nat} (hr : s.rs[k]? = some r) : prS s (k + 1) = prS s k ++ prR s r k r.r.length := by
  show prS s k ++ _ = _; rw [hr]
theorem prR_le (s : Sy) (r : Ru) (k : Nat) : ∀ a, (prR s r k a).length ≤ a
  | 0 => by show ([] : List DepP).length ≤ 0; simp
  | a + 1 => by
    have h1 := prR_le s r k a
    show (prR s r k a ++ _).length ≤ a + 1
    rw [List.length_append]
    cases hx : r.r[a]? with
    | none => simp; omega
    | some x => cases hd : depOf s r k a x <;> simp [hd] <;> omega
theorem prS_le {s : Sy} (hs : SysP s) : ∀ k, (prS s k).length ≤ k * 60
  | 0 => by show ([] : List DepP).length ≤ _; simp
  | k + 1 => by
    have h1 := prS_le hs k
    show (prS s k ++ _).length ≤ (k + 1) * 60
    rw [List.length_append]
    cases hr : s.rs[k]? with
    | none => simp; omega
    | some r =>
      have h2 := prR_le s r k r.r.length
      have h3 := (hs.2.2 k r hr).2.1.2.1.2
      simp; omega
theorem dep_info : (Try.prog.info? 51).map (fun i => (i.zero, i.size, i.bytes)) = some (some (.agg #[.slice none 0 0, .slice none 0 0, .int .i64 0, .int .i64 0]), 4, 64) := by kernel_rfl
theorem four_cells' {w : World} {H : Nat} (hH : w.heap.size = H) (x y z v : Value) (t : TypeId) : ∀ (j : Nat) (u : Value), [x, y, z, v][j]? = some u → (w.alloc (.cells #[x, y, z, v] t)).cell? ((⟨H, 0, none⟩ : Addr).add j) = some u := by
  subst hH
  intro j u hj
  match j, hj with
  | 0, hj => simp at hj; subst hj; simp [Addr.add, go_sem]
  | 1, hj => simp at hj; subst hj; simp [Addr.add, go_sem]
  | 2, hj => simp at hj; subst hj; simp [Addr.add, go_sem]
  | 3, hj => simp at hj; subst hj; simp [Addr.add, go_sem]
theorem four_one (A : Option Addr) (n c : Nat) (B : Option Addr) (m d : Nat) (k a : Int) : ∀ u ∈ [Value.slice A n c, Value.slice B m d, Value.int .i64 k, Value.int .i64 a], u.oneCell' = true := by
  intro u hu
  simp at hu
  rcases hu with rfl | rfl | rfl | rfl <;> rfl
theorem own_uniq {w : World} {B n size : Nat} {e : TypeId} {v : Value} {vs us : List Value} (h : w.ownsRow B e size v n vs) (k : w.ownsRow B e size v n us) : vs = us := by
  rcases h.2 with ⟨h1, h2⟩ | ⟨g, cap, cur, h1, _, hh, _, _, _, ht⟩
  · have a := h.1; have b := k.1
    subst h2
    rw [Nat.zero_mul] at a b
    rw [List.length_eq_zero_iff.1 a, List.length_eq_zero_iff.1 b]
  · rcases k.2 with ⟨k1, k2⟩ | ⟨g', cap', cur', k1, _, hh', _, _, _, ht'⟩
    · rw [h1] at k1; cases k1
    · rw [h1] at k1; cases k1
      rw [hh] at hh'; cases hh'
      rw [← ht, ← ht']
theorem own_cap {w : World} {B n size c : Nat} {e : TypeId} {A : Option Addr} {vs : List Value} (h : w.ownsRow B e size (.slice A n c) n vs) : n ≤ c ∧ c ≤ 9223372036854775807 := by
  rcases h.2 with ⟨e, h2⟩ | ⟨g, cap, cur, e, _, _, h3, h4, _⟩
  · cases e; omega
  · cases e; exact ⟨h3, h4⟩
theorem OwE.cast {w : World} {B top n c : Nat} {A A' : Option Addr} {ps : List DepP} (h : OwE w B top A n c ps) (e : A = A') : OwE w B top A' n c ps := e ▸ h
def NewE (w : World) (ps : List DepP) (b : Bool) (e : Ending) (w' : World) : Prop := ∃ A n c, e = .returned (.tuple #[.slice A n c, .bool b]) ∧ OwE w' w.heap.size w'.heap.size A n c ps ∧ Ext w w'
set_option maxRecDepth 100000 in
set_option maxHeartbeats 4000000 in
theorem c_iPairs {v0 : Value} {s : Sy} {w : World} {ps : List DepP} {bb : Bool} (h0 : RdSyC w v0 s) (hs : SysP s) (hps : (if 64 < (prAll s).length then [] else prAll s) = ps) (hbb : decide ((prAll s).length ≤ 64) = bb) :
    Calls Try.prog 54 #[v0] w (NewE w ps bb) := by
  obtain ⟨A0, n0, c0, B0, m0, d0, rfl, ha, hb⟩ := h0
  have HA := Lib.hid ha
  have HB := Lib.hid hb
  have HS := Lib.hid hs
  have hm0 := hb.len
  have hm12 := hs.2.1
  have HPS := Lib.hid hps
  have HBB := Lib.hid hbb
  have hmle : m0 ≤ 12 := by omega
  have HM := Lib.hid hm0
  clear ha hb hs hps hbb hm0 hm12
  obtain ⟨i1, hji, hjz, hjs, hjb⟩ := info_parts dep_info
  obtain ⟨wb, hwb⟩ : ∃ wb, wb = w.alloc (.cells #[.slice A0 n0 c0, .slice B0 m0 d0] 34) := ⟨_, rfl⟩
  have hs0 : wb.cell? ⟨w.heap.size, 0, none⟩ = some (.slice A0 n0 c0) := by rw [hwb]; simp [go_sem]
  have hs1 : wb.cell? ⟨w.heap.size, 1, none⟩ = some (.slice B0 m0 d0) := by rw [hwb]; simp [go_sem]
  have hbs : wb.heap.size = w.heap.size + 1 := by rw [hwb]; simp [go_sem]
  have hEb : Ext w wb := by rw [hwb]; exact extX
  go_enter Try.func54, Try.ntmps54
  go_wp2_with fail
  rw [← hwb]
  have HBS := Lib.hid hbs
  clear hwb hbs
  go_loopw [4, 13] (fun ov iv wr => ∃ k : Nat, iv = .int .i64 k ∧ k ≤ m0 ∧ (∃ A n c, ov = .slice A n c ∧ n ≤ k * 60 ∧ Hid (OwE wr (w.heap.size + 1) wr.heap.size A n c (prS s k))) ∧ Ext wb wr) (fun _ iv _ => m0 - (intOf iv).toNat)
  case atStart => exact ⟨0, rfl, Nat.zero_le _, ⟨_, _, _, rfl, by omega, Lib.hid (OwE.nil _ _ _)⟩, Ext.refl _⟩
  case round =>
    obtain ⟨k, rfl, hk, ⟨A, n, c, rfl, hn, hO⟩, hE⟩ := hrel
    have hEw : Ext w wr := Ext.trans hEb hE
    have hr0 := Ext.keep hE hs0
    have hr1 := Ext.keep hE hs1
    obtain ⟨wu, rfl⟩ : ∃ wu : World, wu = wr := ⟨_, rfl⟩
    by_cases hlt : k < m0
    · obtain ⟨b, o, r, A1, m1, c1, A2, m2, c2, rfl, hx', hd1, hd2, hr1', hr2, hcap1, hcap2⟩ := RR.at_ (RR.ext HB.out hEw) hlt
      have hrp := HS.out.2.2 k r hx'
      have hr60 : r.r.length ≤ 60 := hrp.2.1.2.1.2
      have hrl : r.r.length = m2 := hr2.len
      have HX := Lib.hid hx'
      have HR2 := Lib.hid hr2
      have hki : (k : Int) < (m0 : Int) := by omega
      have hk0 : (0 : Int) ≤ (k : Int) := by omega
      have hbl : b < wu.heap.size := World.block_lt_of_cell? wu _ hd1
      have hwl : w.heap.size < wu.heap.size := World.block_lt_of_cell? wu _ hr0
      clear hrp hx' hr1' hr2 hcap1 hcap2
      obtain ⟨wo, hwo⟩ : ∃ wo, wo = wu.alloc (.cells #[.slice A1 m1 c1, .slice A2 m2 c2] 75) := ⟨_, rfl⟩
      have hq1 : wo.cell? ⟨wu.heap.size, 1, none⟩ = some (.slice A2 m2 c2) := by rw [hwo]; simp [go_sem]
      have hEo : Ext wu wo := by rw [hwo]; exact extX
      have hbso : wo.heap.size = wu.heap.size + 1 := by rw [hwo]; simp [go_sem]
      have ho0 := Ext.keep hEo hr0
      have ho1 := Ext.keep hEo hr1
      go_wp2_with fail
      rw [← hwo]
      clear hwo
      go_loopw [4, 21] (fun ov iv wi => ∃ a : Nat, iv = .int .i64 a ∧ a ≤ m2 ∧ (∃ A n c, ov = .slice A n c ∧ n ≤ k * 60 + a ∧ Hid (OwE wi (w.heap.size + 1) wi.heap.size A n c (prS s k ++ prR s r k a))) ∧ Ext wb wi ∧ ((wi.cell? ⟨w.heap.size, 0, none⟩ = some (.slice A0 n0 c0) ∧ wi.cell? ⟨w.heap.size, 1, none⟩ = some (.slice (some ⟨b, o, none⟩) m0 d0)) ∧ wo.heap.size ≤ wi.heap.size)) (fun _ iv _ => m2 - (intOf iv).toNat)
      case atStart => exact ⟨0, rfl, Nat.zero_le _, ⟨_, _, _, rfl, by omega, Lib.hid (by show OwE _ _ _ _ _ _ (prS s k ++ []); rw [List.append_nil]; exact (hO.out.ext hEo).mono hEo.size)⟩, Ext.trans hE hEo, ⟨ho0, ho1⟩, Nat.le_refl _⟩
      case round =>
        obtain ⟨a, rfl, hak, ⟨A3, n3, c3, rfl, hn3, hO3⟩, hE3, ⟨hi0, hi1⟩, hsz3⟩ := hrel
        have hEw3 : Ext w wr := Ext.trans hEb hE3
        by_cases hlt2 : a < m2
        · have hal : a < r.r.length := by omega
          obtain ⟨x, hx⟩ : ∃ x, r.r[a]? = some x := ⟨_, List.getElem?_eq_getElem hal⟩
          have hai : (a : Int) < (m2 : Int) := by omega
          have ha0 : (0 : Int) ≤ (a : Int) := by omega
          cases hdo : depOf s r k a x with
          | none =>
            have HP := Lib.hid (prR_none hx hdo)
            go_wp2_with fail
            (with_reducible refine (c_pairAtO (x := x) (RdSyK.mk (RI.ext HA.out hEw3) (RR.ext HB.out hEw3)) HS.out HX.out hx).mono ?_)
            rintro e5 w5 ⟨A5, n5, c5, B5, m5, d5, k5, a5, rfl, hq5, hE5⟩
            rw [hdo]
            clear hq5
            have j0 := Ext.keep hE5 hi0
            have j1 := Ext.keep hE5 hi1
            have HO5 := Lib.hid (((hO3.out.ext hE5).ext ((Ext.refl w5).alloc (.cells #[.slice A5 n5 c5, .slice B5 m5 d5, .int .i64 k5, .int .i64 a5] 51))).mono (top' := w5.heap.size + 1) (by have := hE5.size; omega))
            have hz5 := hE5.size
            go_wp2_with fail
            go_roundw
            case rel => exact ⟨a + 1, by go_num, by omega, ⟨_, _, _, rfl, by omega, Lib.hid (by rw [HP.out]; exact HO5.out.mono (by simp [go_sem]))⟩, Ext.trans hE3 (hE5.alloc _), ⟨Ext.keep (hE5.alloc _) hi0, Ext.keep (hE5.alloc _) hi1⟩, by simp [go_sem]; omega⟩
            case measure => simp only [intOf]; omega
          | some q =>
            have HP := Lib.hid (prR_some hx hdo)
            go_wp2_with fail
            (with_reducible refine (c_pairAtO (x := x) (RdSyK.mk (RI.ext HA.out hEw3) (RR.ext HB.out hEw3)) HS.out HX.out hx).mono ?_)
            rintro e5 w5 ⟨A5, n5, c5, B5, m5, d5, k5, a5, rfl, hq5, hE5⟩
            rw [hdo] at hq5 ⊢
            obtain ⟨rfl, rfl, hO5, hO6, h56⟩ := hq5 q rfl
            obtain rfl : n5 = q.l.length := hO5.len.symm
            obtain rfl : m5 = q.r.length := hO6.len.symm
            have j0 := Ext.keep hE5 hi0
            have j1 := Ext.keep hE5 hi1
            have hz5 := hE5.size
            have hob := hO3.out.ob
            have HB5 := Lib.hid hO5.bd
            have HB6 := Lib.hid hO6.bd
            have H56 := Lib.hid h56
            have HO5 := Lib.hid ((hO5.alloc (.cells #[.slice A5 q.l.length c5, .slice B5 q.r.length d5, .int .i64 q.rule, .int .i64 q.at_] 51)).lower (B' := w.heap.size + 1) (by omega))
            have HO6 := Lib.hid ((hO6.alloc (.cells #[.slice A5 q.l.length c5, .slice B5 q.r.length d5, .int .i64 q.rule, .int .i64 q.at_] 51)).lower (B' := w.heap.size + 1) (by omega))
            have hO4 := (hO3.out.ext hE5).ext ((Ext.refl w5).alloc (.cells #[.slice A5 q.l.length c5, .slice B5 q.r.length d5, .int .i64 q.rule, .int .i64 q.at_] 51))
            have HO4 := Lib.hid hO4
            obtain ⟨_, G9, C9, ho9, _⟩ := hO4.ext ((Ext.refl _).alloc (.cells #[.slice A5 q.l.length c5, .slice B5 q.r.length d5, .int .i64 q.rule, .int .i64 q.at_] 51))
            have HO9 := Lib.hid ho9
            clear hO5 hO6 h56 ho9 hO4
            go_wp2_with (at_builtin; go_loud (refine wpList_append_lies _ rfl (.tmp 32) (.tmp 34) 47 rfl (w.heap.size + 1) 51 i1 (.agg #[.slice none 0 0, .slice none 0 0, .int .i64 0, .int .i64 0]) 4 64 Try.underlying47 hji hjz hjs hjb rfl (by decide) _ n3 _ rfl HO9.out ⟨w5.heap.size + 1, 0, none⟩ 1 1 [.slice A5 q.l.length c5, .slice B5 q.r.length d5, .int .i64 q.rule, .int .i64 q.at_] rfl rfl (four_cells' (by simp [go_sem]) _ _ _ _ _) (four_one _ _ _ _ _ _ _ _) (by decide) (by unfold maxLen; omega) (by omega) (by go_size) _ rfl ?_))
            intro g cap wx hown hg hat hltg
            have HQ := Lib.hid (OwE.push (q := q) (top' := w5.heap.size) (A1 := A5) (A2 := B5) HO4.out (by omega) HO5.out HO6.out HB5.out HB6.out H56.out (by omega) (fun b hb => (hob b hb).2) (own_cap hown)
              (fun us hu => by have e := own_uniq (World.ownsRow.alloc hu _) HO9.out; subst e; exact hown) hg (hat.imp id (fun e => e.trans (by simp [go_sem]))) (by simp [go_sem]))
            have hE9 : Ext wb wx := Ext.grown ((Ext.trans hE3 (hE5.alloc _)).alloc _) hg (fun b hb => by have := (hob b hb).1; have := HBS.out; omega)
            have hzx := hg.size
            clear hown
            go_wp2
            go_roundw
            case rel => exact ⟨a + 1, by go_num, by omega, ⟨_, _, _, rfl, by omega, Lib.hid (by rw [HP.out, ← List.append_assoc]; exact HQ.out.mono (by simp [go_sem] at hzx; omega))⟩, hE9, ⟨Ext.keep hE9 hs0, Ext.keep hE9 hs1⟩, by simp [go_sem] at hzx; omega⟩
            case measure => simp only [intOf]; omega
        · obtain rfl : a = m2 := by omega
          have HN := Lib.hid (prS_succ HX.out)
          go_wp2
          go_roundw
          case rel => exact ⟨k + 1, by go_num, by omega, ⟨_, _, _, rfl, by omega, Lib.hid (by rw [HN.out, hrl]; exact hO3.out)⟩, hE3⟩
          case measure => simp only [intOf]; omega
    · obtain rfl : k = m0 := by omega
      have HL := Lib.hid (show prS s k = prAll s by unfold prAll; rw [HM.out])
      have hlen := hO.out.1.2.1
      rw [HL.out] at hlen
      by_cases h64 : 64 < n
      · go_wp2
        refine bodyPost_ret (v := .tuple #[.slice none 0 0, .bool false]) (by simp [results, Try.results54, go_sem]) rfl ?_
        rw [← HPS.out, ← HBB.out, hlen, if_pos h64]
        exact ⟨_, _, _, by rw [show decide (n ≤ 64) = false from by simp; omega], OwE.nil _ _ _, hEw⟩
      · go_wp2
        refine bodyPost_ret (v := .tuple #[.slice A n c, .bool true]) (by simp [results, Try.results54, go_sem]) rfl ?_
        rw [← HPS.out, ← HBB.out, hlen, if_neg h64]
        exact ⟨_, _, _, by rw [show decide (n ≤ 64) = true from by simp; omega], by rw [← HL.out]; exact hO.out.lower (Nat.le_succ _), hEw⟩

theorem c_iSysOkB {v : Value} {s : Sy} {w : World} {b : Bool} (hb : sysOk s = b) (h0 : RdSyC w v s) :
    Calls Try.prog 53 #[v] w fun e w' => e = .returned (.bool b) ∧ Ext w w' :=
  (c_iSystemOk h0).mono fun _ _ ⟨he, hw⟩ => ⟨he.trans (ret_bool hb), hw⟩
theorem c_sSysOkB {v : Value} {s : Sy} {w : World} {b : Bool} (hb : sysOk s = b) (h0 : RdSyC w v s) :
    Calls Try.prog 39 #[v] w fun e w' => e = .returned (.bool b) ∧ Ext w w' :=
  (c_sSystemOk h0).mono fun _ _ ⟨he, hw⟩ => ⟨he.trans (ret_bool hb), hw⟩
set_option maxRecDepth 100000 in
set_option maxHeartbeats 4000000 in
theorem c_iPairsOf {v0 : Value} {s : Sy} {w : World} {ps : List DepP} {bb : Bool} (hps : prV s = ps) (hbb : prB s = bb) (h0 : RdSyC w v0 s) :
    Calls Try.prog 27 #[v0] w (NewE w ps bb) := by
  obtain ⟨A0, n0, c0, B0, m0, d0, rfl, ha, hb⟩ := h0
  have HA := Lib.hid ha
  have HB := Lib.hid hb
  clear ha hb
  cases hs : sysOk s with
  | false =>
    have HP := Lib.hid (show ps = [] by rw [← hps]; unfold prV; rw [hs]; rfl)
    have HQ := Lib.hid (show bb = false by rw [← hbb]; unfold prB; rw [hs]; rfl)
    clear hps hbb
    go_enter Try.func27, Try.ntmps27
    go_wp2_with fail
    (with_reducible refine (c_iSysOkB hs (by (first | (first | (with_reducible exact RdI.mk (RI.ext (Hid.out (by with_reducible assumption)) (by exact extX))) | (with_reducible exact RdI.ext (by with_reducible assumption) (by exact extX))) | (with_reducible exact RdDp.mk (OwI.cap (Hid.out (by with_reducible assumption))) (OwI.cap (Hid.out (by with_reducible assumption))) (by (first | (with_reducible exact RI.ext (Hid.out (by with_reducible assumption)) (by exact extX)))) (by (first | (with_reducible exact RI.ext (Hid.out (by with_reducible assumption)) (by exact extX))))) | (with_reducible exact RdDp.ext (by with_reducible assumption) (by exact extX)) | (with_reducible exact RdDq.mk (by (first | (with_reducible exact RI.ext (Hid.out (by with_reducible assumption)) (by exact extX)))) (by (first | (with_reducible exact RI.ext (Hid.out (by with_reducible assumption)) (by exact extX))))) | (with_reducible exact RdDp.rd (RdDp.ext (by with_reducible assumption) (by exact extX))) | (with_reducible exact RdDq.ext (by with_reducible assumption) (by exact extX)) | (with_reducible exact RdSyK.mk (by (first | (with_reducible exact RI.ext (Hid.out (by with_reducible assumption)) (by exact extX)))) (RR.ext (Hid.out (by with_reducible assumption)) (by exact extX))) | (with_reducible exact RdSyK.ext (by with_reducible assumption) (by exact extX)) | (with_reducible exact RdSig.mk (by (first | (with_reducible exact RI.ext (Hid.out (by with_reducible assumption)) (by exact extX))))) | (with_reducible exact RdSig.ext (by with_reducible assumption) (by exact extX))))).mono ?_); rintro e w1 ⟨rfl, hE1⟩; have hz1 := sz_of hE1; (try simp only [World.size_alloc, World.size_setCell, World.size_drew] at hz1); obtain ⟨hc1, hf1⟩ := bcell hE1; (try have hq1_0 : w.heap.size < w1.heap.size := by omega); (try have hq1_1 : w.heap.size + 1 < w1.heap.size := by omega); (try have hq1_2 : w.heap.size + 1 + 1 < w1.heap.size := by omega); (try have hq1_3 : w.heap.size + 1 + 1 + 1 < w1.heap.size := by omega); (try have hq1_4 : w.heap.size + 1 + 1 + 1 + 1 < w1.heap.size := by omega); (try have hq1_5 : w.heap.size + 1 + 1 + 1 + 1 + 1 < w1.heap.size := by omega)
    go_wp2_with fail
    refine bodyPost_ret (v := .tuple #[.slice none 0 0, .bool false]) (by simp [results, Try.results27, go_sem]) rfl ?_
    rw [HP.out, HQ.out]
    exact ⟨none, 0, 0, rfl, OwE.nil _ _ _, by exact extX⟩
  | true =>
    have HS := Lib.hid (sysOk_iff.1 hs)
    have HP := Lib.hid (show (if 64 < (prAll s).length then [] else prAll s) = ps by rw [← hps]; unfold prV; rw [hs]; rfl)
    have HQ := Lib.hid (show decide ((prAll s).length ≤ 64) = bb by rw [← hbb]; unfold prB; rw [hs]; rfl)
    clear hps hbb
    go_enter Try.func27, Try.ntmps27
    go_wp2_with fail
    (with_reducible refine (c_iSysOkB hs (by (first | (first | (with_reducible exact RdI.mk (RI.ext (Hid.out (by with_reducible assumption)) (by exact extX))) | (with_reducible exact RdI.ext (by with_reducible assumption) (by exact extX))) | (with_reducible exact RdDp.mk (OwI.cap (Hid.out (by with_reducible assumption))) (OwI.cap (Hid.out (by with_reducible assumption))) (by (first | (with_reducible exact RI.ext (Hid.out (by with_reducible assumption)) (by exact extX)))) (by (first | (with_reducible exact RI.ext (Hid.out (by with_reducible assumption)) (by exact extX))))) | (with_reducible exact RdDp.ext (by with_reducible assumption) (by exact extX)) | (with_reducible exact RdDq.mk (by (first | (with_reducible exact RI.ext (Hid.out (by with_reducible assumption)) (by exact extX)))) (by (first | (with_reducible exact RI.ext (Hid.out (by with_reducible assumption)) (by exact extX))))) | (with_reducible exact RdDp.rd (RdDp.ext (by with_reducible assumption) (by exact extX))) | (with_reducible exact RdDq.ext (by with_reducible assumption) (by exact extX)) | (with_reducible exact RdSyK.mk (by (first | (with_reducible exact RI.ext (Hid.out (by with_reducible assumption)) (by exact extX)))) (RR.ext (Hid.out (by with_reducible assumption)) (by exact extX))) | (with_reducible exact RdSyK.ext (by with_reducible assumption) (by exact extX)) | (with_reducible exact RdSig.mk (by (first | (with_reducible exact RI.ext (Hid.out (by with_reducible assumption)) (by exact extX))))) | (with_reducible exact RdSig.ext (by with_reducible assumption) (by exact extX))))).mono ?_); rintro e w1 ⟨rfl, hE1⟩; have hz1 := sz_of hE1; (try simp only [World.size_alloc, World.size_setCell, World.size_drew] at hz1); obtain ⟨hc1, hf1⟩ := bcell hE1; (try have hq1_0 : w.heap.size < w1.heap.size := by omega); (try have hq1_1 : w.heap.size + 1 < w1.heap.size := by omega); (try have hq1_2 : w.heap.size + 1 + 1 < w1.heap.size := by omega); (try have hq1_3 : w.heap.size + 1 + 1 + 1 < w1.heap.size := by omega); (try have hq1_4 : w.heap.size + 1 + 1 + 1 + 1 < w1.heap.size := by omega); (try have hq1_5 : w.heap.size + 1 + 1 + 1 + 1 + 1 < w1.heap.size := by omega)
    go_wp2_with fail
    (with_reducible refine (c_iPairs (by (first | (first | (with_reducible exact RdI.mk (RI.ext (Hid.out (by with_reducible assumption)) (by exact extX))) | (with_reducible exact RdI.ext (by with_reducible assumption) (by exact extX))) | (with_reducible exact RdDp.mk (OwI.cap (Hid.out (by with_reducible assumption))) (OwI.cap (Hid.out (by with_reducible assumption))) (by (first | (with_reducible exact RI.ext (Hid.out (by with_reducible assumption)) (by exact extX)))) (by (first | (with_reducible exact RI.ext (Hid.out (by with_reducible assumption)) (by exact extX))))) | (with_reducible exact RdDp.ext (by with_reducible assumption) (by exact extX)) | (with_reducible exact RdDq.mk (by (first | (with_reducible exact RI.ext (Hid.out (by with_reducible assumption)) (by exact extX)))) (by (first | (with_reducible exact RI.ext (Hid.out (by with_reducible assumption)) (by exact extX))))) | (with_reducible exact RdDp.rd (RdDp.ext (by with_reducible assumption) (by exact extX))) | (with_reducible exact RdDq.ext (by with_reducible assumption) (by exact extX)) | (with_reducible exact RdSyK.mk (by (first | (with_reducible exact RI.ext (Hid.out (by with_reducible assumption)) (by exact extX)))) (RR.ext (Hid.out (by with_reducible assumption)) (by exact extX))) | (with_reducible exact RdSyK.ext (by with_reducible assumption) (by exact extX)) | (with_reducible exact RdSig.mk (by (first | (with_reducible exact RI.ext (Hid.out (by with_reducible assumption)) (by exact extX))))) | (with_reducible exact RdSig.ext (by with_reducible assumption) (by exact extX)))) HS.out HP.out HQ.out).mono ?_)
    rintro e w2 ⟨A, n, c, rfl, hO2, hE2⟩; have HO2 := Lib.hid hO2; clear hO2
    go_wp2_with fail
    refine bodyPost_ret (v := .tuple #[.slice A n c, .bool bb]) (by simp [results, Try.results27, go_sem]) rfl ?_
    exact ⟨A, n, c, rfl, HO2.out.lower (sz_of (by exact extX)), by exact extX⟩

set_option maxRecDepth 100000 in
set_option maxHeartbeats 4000000 in
theorem c_sPairsOf {v0 : Value} {s : Sy} {w : World} {ps : List DepP} {bb : Bool} (hps : prV s = ps) (hbb : prB s = bb) (h0 : RdSyC w v0 s) :
    Calls Try.prog 17 #[v0] w (NewE w ps bb) := by
  obtain ⟨A0, n0, c0, B0, m0, d0, rfl, ha, hb⟩ := h0
  have HA := Lib.hid ha
  have HB := Lib.hid hb
  have hm0 := hb.len
  clear ha hb
  obtain ⟨i1, hji, hjz, hjs, hjb⟩ := info_parts dep_info
  cases hs : sysOk s with
  | false =>
    have HP := Lib.hid (show ps = [] by rw [← hps]; unfold prV; rw [hs]; rfl)
    have HQ := Lib.hid (show bb = false by rw [← hbb]; unfold prB; rw [hs]; rfl)
    clear hps hbb
    go_enter Try.func17, Try.ntmps17
    go_wp2_with fail
    (with_reducible refine (c_sSysOkB hs (by (first | (first | (with_reducible exact RdI.mk (RI.ext (Hid.out (by with_reducible assumption)) (by exact extX))) | (with_reducible exact RdI.ext (by with_reducible assumption) (by exact extX))) | (with_reducible exact RdDp.mk (OwI.cap (Hid.out (by with_reducible assumption))) (OwI.cap (Hid.out (by with_reducible assumption))) (by (first | (with_reducible exact RI.ext (Hid.out (by with_reducible assumption)) (by exact extX)))) (by (first | (with_reducible exact RI.ext (Hid.out (by with_reducible assumption)) (by exact extX))))) | (with_reducible exact RdDp.ext (by with_reducible assumption) (by exact extX)) | (with_reducible exact RdDq.mk (by (first | (with_reducible exact RI.ext (Hid.out (by with_reducible assumption)) (by exact extX)))) (by (first | (with_reducible exact RI.ext (Hid.out (by with_reducible assumption)) (by exact extX))))) | (with_reducible exact RdDp.rd (RdDp.ext (by with_reducible assumption) (by exact extX))) | (with_reducible exact RdDq.ext (by with_reducible assumption) (by exact extX)) | (with_reducible exact RdSyK.mk (by (first | (with_reducible exact RI.ext (Hid.out (by with_reducible assumption)) (by exact extX)))) (RR.ext (Hid.out (by with_reducible assumption)) (by exact extX))) | (with_reducible exact RdSyK.ext (by with_reducible assumption) (by exact extX)) | (with_reducible exact RdSig.mk (by (first | (with_reducible exact RI.ext (Hid.out (by with_reducible assumption)) (by exact extX))))) | (with_reducible exact RdSig.ext (by with_reducible assumption) (by exact extX))))).mono ?_); rintro e w1 ⟨rfl, hE1⟩; have hz1 := sz_of hE1; (try simp only [World.size_alloc, World.size_setCell, World.size_drew] at hz1); obtain ⟨hc1, hf1⟩ := bcell hE1; (try have hq1_0 : w.heap.size < w1.heap.size := by omega); (try have hq1_1 : w.heap.size + 1 < w1.heap.size := by omega); (try have hq1_2 : w.heap.size + 1 + 1 < w1.heap.size := by omega); (try have hq1_3 : w.heap.size + 1 + 1 + 1 < w1.heap.size := by omega); (try have hq1_4 : w.heap.size + 1 + 1 + 1 + 1 < w1.heap.size := by omega); (try have hq1_5 : w.heap.size + 1 + 1 + 1 + 1 + 1 < w1.heap.size := by omega)
    go_wp2_with fail
    refine bodyPost_ret (v := .tuple #[.slice (some ⟨w.heap.size + 1, 0, none⟩) 0 0, .bool false]) (by simp [results, Try.results17, go_sem]) rfl ?_
    rw [HP.out, HQ.out]
    refine ⟨_, 0, 0, rfl, ?_, by exact extX⟩
    exact ((OwE.none0 (w := w.alloc (.cells #[.slice A0 n0 c0, .slice B0 m0 d0] 34)) (B := w.heap.size) (by simp [go_sem]) _).ext hE1).cast (by simp [go_sem])
  | true =>
    have hs' := sysOk_iff.1 hs
    have HS := Lib.hid hs'
    have HPS := Lib.hid (show (if 64 < (prAll s).length then [] else prAll s) = ps by rw [← hps]; unfold prV; rw [hs]; rfl)
    have HBB := Lib.hid (show decide ((prAll s).length ≤ 64) = bb by rw [← hbb]; unfold prB; rw [hs]; rfl)
    have hmle : m0 ≤ 12 := by have := hs'.2.1; omega
    have HM := Lib.hid hm0
    clear hps hbb hm0 hs'
    go_enter Try.func17, Try.ntmps17
    go_wp2_with fail
    (with_reducible refine (c_sSysOkB hs (by (first | (first | (with_reducible exact RdI.mk (RI.ext (Hid.out (by with_reducible assumption)) (by exact extX))) | (with_reducible exact RdI.ext (by with_reducible assumption) (by exact extX))) | (with_reducible exact RdDp.mk (OwI.cap (Hid.out (by with_reducible assumption))) (OwI.cap (Hid.out (by with_reducible assumption))) (by (first | (with_reducible exact RI.ext (Hid.out (by with_reducible assumption)) (by exact extX)))) (by (first | (with_reducible exact RI.ext (Hid.out (by with_reducible assumption)) (by exact extX))))) | (with_reducible exact RdDp.ext (by with_reducible assumption) (by exact extX)) | (with_reducible exact RdDq.mk (by (first | (with_reducible exact RI.ext (Hid.out (by with_reducible assumption)) (by exact extX)))) (by (first | (with_reducible exact RI.ext (Hid.out (by with_reducible assumption)) (by exact extX))))) | (with_reducible exact RdDp.rd (RdDp.ext (by with_reducible assumption) (by exact extX))) | (with_reducible exact RdDq.ext (by with_reducible assumption) (by exact extX)) | (with_reducible exact RdSyK.mk (by (first | (with_reducible exact RI.ext (Hid.out (by with_reducible assumption)) (by exact extX)))) (RR.ext (Hid.out (by with_reducible assumption)) (by exact extX))) | (with_reducible exact RdSyK.ext (by with_reducible assumption) (by exact extX)) | (with_reducible exact RdSig.mk (by (first | (with_reducible exact RI.ext (Hid.out (by with_reducible assumption)) (by exact extX))))) | (with_reducible exact RdSig.ext (by with_reducible assumption) (by exact extX))))).mono ?_); rintro e w1 ⟨rfl, hE1⟩; have hz1 := sz_of hE1; (try simp only [World.size_alloc, World.size_setCell, World.size_drew] at hz1); obtain ⟨hc1, hf1⟩ := bcell hE1; (try have hq1_0 : w.heap.size < w1.heap.size := by omega); (try have hq1_1 : w.heap.size + 1 < w1.heap.size := by omega); (try have hq1_2 : w.heap.size + 1 + 1 < w1.heap.size := by omega); (try have hq1_3 : w.heap.size + 1 + 1 + 1 < w1.heap.size := by omega); (try have hq1_4 : w.heap.size + 1 + 1 + 1 + 1 < w1.heap.size := by omega); (try have hq1_5 : w.heap.size + 1 + 1 + 1 + 1 + 1 < w1.heap.size := by omega)
    obtain ⟨wb, hwb⟩ : ∃ wb, wb = w.alloc (.cells #[.slice A0 n0 c0, .slice B0 m0 d0] 34) := ⟨_, rfl⟩
    have hb1 : wb.cell? ⟨w.heap.size, 1, none⟩ = some (.slice B0 m0 d0) := by rw [hwb]; simp [go_sem]
    have hb0 : wb.cell? ⟨w.heap.size, 0, none⟩ = some (.slice A0 n0 c0) := by rw [hwb]; simp [go_sem]
    have hbs : wb.heap.size = w.heap.size + 1 := by rw [hwb]; simp [go_sem]
    have hEb : Ext w wb := by rw [hwb]; exact extX
    have hE1b : Ext wb w1 := by rw [hwb]; exact Ext.trans ((Ext.refl _).alloc _) hE1
    have HO := Lib.hid (((OwE.none0 (w := wb) (B := w.heap.size + 1) (by omega) (w.heap.size + 2)).ext (by rw [hwb]; exact hE1)).cast (A' := some ⟨w.heap.size + 1, 0, none⟩) (by rw [hbs]))
    have hz1 := hE1b.size
    have hz1b : w.heap.size + 2 ≤ w1.heap.size := by have := hE1.size; simp [go_sem] at this; omega
    have hs1 := Ext.keep hE1b hb1
    have hs0 := Ext.keep hE1b hb0
    have HBS := Lib.hid hbs
    clear hwb hbs
    go_wp2_with fail
    go_loopw [4, 5] (fun ov iv wr => ∃ k : Nat, iv = .int .i64 k ∧ k ≤ m0 ∧ (∃ A n c, ov = .slice A n c ∧ n ≤ k * 60 ∧ Hid (OwE wr (w.heap.size + 1) wr.heap.size A n c (prS s k))) ∧ Ext wb wr) (fun _ iv _ => m0 - (intOf iv).toNat)
    case atStart => exact ⟨0, rfl, Nat.zero_le _, ⟨_, _, _, rfl, by omega, Lib.hid (HO.out.mono (by omega))⟩, hE1b⟩
    case round =>
      obtain ⟨k, rfl, hk, ⟨A, n, c, rfl, hn, hO⟩, hE⟩ := hrel
      obtain ⟨wu, rfl⟩ : ∃ wu : World, wu = wr := ⟨_, rfl⟩
      have hEw : Ext w wu := Ext.trans hEb hE
      have hr1 := Ext.keep hE hb1
      have hr0 := Ext.keep hE hb0
      by_cases hlt : k < m0
      · obtain ⟨b, o, r, A1, m1, c1, A2, m2, c2, rfl, hx', hd1, hd2, hr1', hr2, hcap1, hcap2⟩ := RR.at_ HB.out hlt
        have hrp := HS.out.2.2 k r hx'
        have hr60 : r.r.length ≤ 60 := hrp.2.1.2.1.2
        have hrl : r.r.length = m2 := hr2.len
        have HX := Lib.hid hx'
        have hki : (k : Int) < (m0 : Int) := by omega
        have hk0 : (0 : Int) ≤ (k : Int) := by omega
        clear hrp hx' hr1' hr2 hcap1 hcap2 hd1
        go_wp2_with fail
        go_loopw [4, 6] (fun ov iv wi => ∃ a : Nat, iv = .int .i64 a ∧ a ≤ m2 ∧ (∃ A n c, ov = .slice A n c ∧ n ≤ k * 60 + a ∧ Hid (OwE wi (w.heap.size + 1) wi.heap.size A n c (prS s k ++ prR s r k a))) ∧ Ext wb wi) (fun _ iv _ => m2 - (intOf iv).toNat)
        case atStart => exact ⟨0, rfl, Nat.zero_le _, ⟨_, _, _, rfl, by omega, Lib.hid (by show OwE _ _ _ _ _ _ (prS s k ++ []); rw [List.append_nil]; exact hO.out)⟩, hE⟩
        case round =>
          obtain ⟨a, rfl, hak, ⟨A3, n3, c3, rfl, hn3, hO3⟩, hE3⟩ := hrel
          have hEw3 : Ext w wr := Ext.trans hEb hE3
          have hi1 := Ext.keep hE3 hb1
          have hi0 := Ext.keep hE3 hb0
          have hid2 := Ext.keep hEw3 hd2
          have hbl : b < wr.heap.size := World.block_lt_of_cell? wr _ hid2
          by_cases hlt2 : a < m2
          · have hal : a < r.r.length := by omega
            obtain ⟨x, hx⟩ : ∃ x, r.r[a]? = some x := ⟨_, List.getElem?_eq_getElem hal⟩
            have hai : (a : Int) < (m2 : Int) := by omega
            have ha0 : (0 : Int) ≤ (a : Int) := by omega
            cases hdo : depOf s r k a x with
            | none =>
              have HP := Lib.hid (prR_none hx hdo)
              go_wp2_with fail
              (with_reducible refine (c_l17AtO (x := x) (RdSyK.mk (RI.ext HA.out hEw3) (RR.ext HB.out hEw3)) HS.out HX.out hx).mono ?_)
              rintro e5 w5 ⟨A5, n5, c5, B5, m5, d5, k5, a5, rfl, hq5, hE5⟩
              rw [hdo]
              clear hq5
              have HO5 := Lib.hid (((hO3.out.ext hE5).ext ((Ext.refl w5).alloc (.cells #[.slice A5 n5 c5, .slice B5 m5 d5, .int .i64 k5, .int .i64 a5] 51))).mono (top' := w5.heap.size + 1) (by have := hE5.size; omega))
              have hz5 := hE5.size
              go_wp2_with fail
              go_roundw
              case rel => exact ⟨a + 1, by go_num, by omega, ⟨_, _, _, rfl, by omega, Lib.hid (by rw [HP.out]; exact HO5.out.mono (by simp [go_sem]))⟩, Ext.trans hE3 (hE5.alloc _)⟩
              case measure => simp only [intOf]; omega
            | some q =>
              have HP := Lib.hid (prR_some hx hdo)
              go_wp2_with fail
              (with_reducible refine (c_l17AtO (x := x) (RdSyK.mk (RI.ext HA.out hEw3) (RR.ext HB.out hEw3)) HS.out HX.out hx).mono ?_)
              rintro e5 w5 ⟨A5, n5, c5, B5, m5, d5, k5, a5, rfl, hq5, hE5⟩
              rw [hdo] at hq5 ⊢
              obtain ⟨rfl, rfl, hO5, hO6, h56⟩ := hq5 q rfl
              obtain rfl : n5 = q.l.length := hO5.len.symm
              obtain rfl : m5 = q.r.length := hO6.len.symm
              have hz5 := hE5.size
              have hob := hO3.out.ob
              have HB5 := Lib.hid hO5.bd
              have HB6 := Lib.hid hO6.bd
              have H56 := Lib.hid h56
              have hwz := hEw3.size
              have hbz := hE3.size
              have hbz2 := HBS.out
              have HO5 := Lib.hid ((hO5.alloc (.cells #[.slice A5 q.l.length c5, .slice B5 q.r.length d5, .int .i64 q.rule, .int .i64 q.at_] 51)).lower (B' := w.heap.size + 1) (by omega))
              have HO6 := Lib.hid ((hO6.alloc (.cells #[.slice A5 q.l.length c5, .slice B5 q.r.length d5, .int .i64 q.rule, .int .i64 q.at_] 51)).lower (B' := w.heap.size + 1) (by omega))
              have hO4 := (hO3.out.ext hE5).ext ((Ext.refl w5).alloc (.cells #[.slice A5 q.l.length c5, .slice B5 q.r.length d5, .int .i64 q.rule, .int .i64 q.at_] 51))
              have HO4 := Lib.hid hO4
              obtain ⟨_, G9, C9, ho9, _⟩ := hO4.ext ((Ext.refl _).alloc (.cells #[.slice A5 q.l.length c5, .slice B5 q.r.length d5, .int .i64 q.rule, .int .i64 q.at_] 51))
              have HO9 := Lib.hid ho9
              clear hO5 hO6 h56 ho9 hO4
              go_wp2_with (at_builtin; go_loud (refine wpList_append_lies _ rfl (.tmp 40) (.tmp 42) 47 rfl (w.heap.size + 1) 51 i1 (.agg #[.slice none 0 0, .slice none 0 0, .int .i64 0, .int .i64 0]) 4 64 Try.underlying47 hji hjz hjs hjb rfl (by decide) _ n3 _ rfl HO9.out ⟨w5.heap.size + 1, 0, none⟩ 1 1 [.slice A5 q.l.length c5, .slice B5 q.r.length d5, .int .i64 q.rule, .int .i64 q.at_] rfl rfl (four_cells' (by simp [go_sem]) _ _ _ _ _) (four_one _ _ _ _ _ _ _ _) (by decide) (by unfold maxLen; omega) (by omega) (by go_size) _ rfl ?_))
              intro g cap wx hown hg hat hltg
              have HQ := Lib.hid (OwE.push (q := q) (top' := w5.heap.size) (A1 := A5) (A2 := B5) HO4.out (by omega) HO5.out HO6.out HB5.out HB6.out H56.out (by omega) (fun b hb => (hob b hb).2) (own_cap hown)
                (fun us hu => by have e := own_uniq (World.ownsRow.alloc hu _) HO9.out; subst e; exact hown) hg (hat.imp id (fun e => e.trans (by simp [go_sem]))) (by simp [go_sem]))
              have hE9 : Ext wb wx := Ext.grown ((Ext.trans hE3 (hE5.alloc _)).alloc _) hg (fun b hb => by have := (hob b hb).1; have := HBS.out; omega)
              have hzx := hg.size
              clear hown
              go_wp2
              go_roundw
              case rel => exact ⟨a + 1, by go_num, by omega, ⟨_, _, _, rfl, by omega, Lib.hid (by rw [HP.out, ← List.append_assoc]; exact HQ.out.mono (by simp [go_sem] at hzx; omega))⟩, hE9⟩
              case measure => simp only [intOf]; omega
          · obtain rfl : a = m2 := by omega
            have HN := Lib.hid (prS_succ HX.out)
            have hzz : ¬ ((a : Int) < (a : Int)) := by omega
            go_wp2_with fail
            go_roundw
            case rel => exact ⟨k + 1, by go_num, by omega, ⟨_, _, _, rfl, by omega, Lib.hid (by rw [HN.out, hrl]; exact hO3.out)⟩, hE3⟩
            case measure => simp only [intOf]; omega
      · obtain rfl : k = m0 := by omega
        have HL := Lib.hid (show prS s k = prAll s by unfold prAll; rw [HM.out])
        have hlen := hO.out.1.2.1
        rw [HL.out] at hlen
        have hzw := hEw.size
        have hzb := hE.size
        by_cases h64 : 64 < n
        · go_wp2_with fail
          refine bodyPost_ret (v := .tuple #[.slice (some ⟨wu.heap.size, 0, none⟩) 0 0, .bool false]) (by simp [results, Try.results17, go_sem]) rfl ?_
          rw [← HPS.out, ← HBB.out, hlen, if_pos h64]
          exact ⟨_, _, _, by rw [show decide (n ≤ 64) = false from by simp; omega], OwE.none0 hzw _, by exact extX⟩
        · go_wp2_with fail
          refine bodyPost_ret (v := .tuple #[.slice A n c, .bool true]) (by simp [results, Try.results17, go_sem]) rfl ?_
          rw [← HPS.out, ← HBB.out, hlen, if_neg h64]
          exact ⟨_, _, _, by rw [show decide (n ≤ 64) = true from by simp; omega], by rw [← HL.out]; exact hO.out.lower (Nat.le_succ _), hEw⟩

end Go.Proofs.Ytempekmenkeigaa
