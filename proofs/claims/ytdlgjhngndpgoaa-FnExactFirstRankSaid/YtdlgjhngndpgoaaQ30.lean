/- Several texts in one: OpenT, Cnt, CoM, OpenF, Turn, MarkSy. -/
import Derived.Test.YtdlgjhngndpgoaaQ29
import Derived.Test.YtdlgjhngndpgoaaQ10
import Derived.Test.YtdlgjhngndpgoaaQ16
import Derived.Test.YtdlgjhngndpgoaaQ15
import Derived.Test.YtdlgjhngndpgoaaQ23
import Derived.Deep.Slices
import Derived.Deep.Fields
import Derived.ChangeSame
import Derived.Test.YtdlgjhngndpgoaaQ13
import Derived.Test.YtdlgjhngndpgoaaQ12
namespace Go.Proofs.Ytdlgjhngndpgoaa
open Go.ChangeShapes Go.WideShapes Go.ChangeAt Go.RowKit Go.Joins Go.Deep
set_option linter.unusedSimpArgs false
set_option linter.unusedVariables false
set_option linter.constructorNameAsVariable false
theorem own : ownKnob Try.prog.godebug = none := by kernel_rfl
theorem laidOut : laidOutB Try.prog = true := by kernel_rfl
section
variable {H : Type} {enc : TypeId × Value → H} {w : World} {base b0 : Nat} {held : Bool} {r : Reach}
end
end Go.Proofs.Ytdlgjhngndpgoaa
namespace Go.Proofs.Ytdlgjhngndpgoaa
open Go.RowKit
set_option linter.unusedSimpArgs false
set_option linter.unusedVariables false
theorem OwI.freshP {w : World} (x : Int) : OwI (w.alloc (.cells #[.int .i64 x] 2)) w.heap.size (some ⟨w.heap.size, 0, none⟩) 1 1 [x] :=
  ⟨by simp, by simp, .inr ⟨w.heap.size, 1, _, rfl, Nat.le_refl _, heap_alloc_new w _, Nat.le_refl _, by unfold maxLen; omega, by simp, by simp⟩⟩
end Go.Proofs.Ytdlgjhngndpgoaa
namespace Go.Proofs.Ytdlgjhngndpgoaa
open Go.RowKit
set_option linter.unusedSimpArgs false
set_option linter.unusedVariables false
theorem fndAll_some {lex : Bool} {s : Sy} {x : List Int} : ∀ rs, fndAll lex s rs (some x) = some x
  | [] => rfl
  | _ :: rs => fndAll_some rs
def TO (lex : Bool) (s : Sy) (us : List Int) : Prop := orientsV lex s us = true
theorem fnd_gs {lex : Bool} {s : Sy} : ∀ (k : Nat) (us : List Int), fndAll lex s (lstR k us) none = gsR (TO lex s) (k + 1) us
  | 0, us => by
    show fndN lex s us none = _
    unfold gsR fndN
    by_cases h : orientsV lex s us = true
    · rw [if_pos h, if_pos (show TO lex s us from h)]
    · rw [if_neg h, if_neg (show ¬ TO lex s us from h)]
      by_cases hb : nextB us = true
      · rw [if_pos hb]; rfl
      · rw [if_neg hb]
  | k + 1, us => by
    show fndAll lex s (if nextB us = true then lstR k (nextV us) else []) (fndN lex s us none) = _
    unfold gsR
    by_cases h : orientsV lex s us = true
    · rw [if_pos (show TO lex s us from h), show fndN lex s us none = some us by simp [fndN, h]]
      exact fndAll_some _
    · rw [if_neg (show ¬ TO lex s us from h), show fndN lex s us none = none by simp [fndN, h]]
      by_cases hb : nextB us = true
      · rw [if_pos hb, if_pos hb]; exact fnd_gs k _
      · rw [if_neg hb, if_neg hb]; rfl
theorem ansF_gs {lex : Bool} {s : Sy} (h : sysOk s = true) : gsR (TO lex s) (muR (upI 0 s.ar.length) + 1) (upI 0 s.ar.length) = ansF lex s := by
  unfold ansF; rw [if_pos h]; exact (fnd_gs _ _).symm
theorem rank_of_perm {s : Sy} {us : List Int} (hs : SysP s) (hp : permOk us = true) (hl : us.length = s.ar.length) : rankOk s.ar us = true := by
  rw [rankOk_iff]
  exact ⟨hs.1, hl, fun i hi => (permOk_mem hp).2 ⟨by omega, by omega⟩⟩
theorem c_sSystemOkF {k0 : Bool} {v : Value} {s : Sy} {w : World} {b : Bool} (hb : sysOk s = b) (h0 : RdSyK k0 w v s) :
    Calls Try.prog 29 #[v] w fun e w' => e = .returned (.bool b) ∧ Ext w w' :=
  (c_sSystemOk h0).mono fun _ _ ⟨he, hw⟩ => ⟨he.trans (ret_bool hb), hw⟩
theorem c_l13OrF {v0 v1 : Value} {s : Sy} {rk : List Int} {b : Bool} {w : World} (hb : lpAll true s rk = b) (h0 : RdSyC w v0 s) (h1 : RdI w v1 rk) (hs : SysP s) (hk : rankOk s.ar rk = true) :
    Calls Try.prog 31 #[v0, v1] w fun e w' => e = .returned (.bool b) ∧ Ext w w' := by subst hb; exact c_l13Orients h0 h1 hs hk
noncomputable def frMeas (T : List Int → Prop) (n0 : Nat) (o : Option (List Int)) (v mv : Value) (w : World) : Nat := match mv with
  | .bool true => leastOf (fun k => ∃ A n c rk, v = .slice A n c ∧ RI w A n rk ∧ rk.length = n0 ∧ OnG T o k rk) + 1
  | _ => 0
theorem frMeas_t {T : List Int → Prop} {n0 : Nat} {o : Option (List Int)} {v : Value} {w : World} : frMeas T n0 o v (.bool true) w = leastOf (fun k => ∃ A n c rk, v = .slice A n c ∧ RI w A n rk ∧ rk.length = n0 ∧ OnG T o k rk) + 1 := rfl
theorem frMeas_f {T : List Int → Prop} {n0 : Nat} {o : Option (List Int)} {v : Value} {w : World} : frMeas T n0 o v (.bool false) w = 0 := rfl
theorem upI_snoc (n : Nat) : ∀ a : Int, upI a (n + 1) = upI a n ++ [a + n] := by
  induction n with
  | zero => intro a; simp [upI]
  | succ n ih =>
    intro a
    show a :: upI (a + 1) (n + 1) = (a :: upI (a + 1) n) ++ [a + ((n + 1 : Nat) : Int)]
    rw [ih, List.cons_append]
    congr 3
    omega
set_option maxRecDepth 100000 in
set_option maxHeartbeats 2000000 in
theorem c_l16First {n : Nat} {w : World} (hn : n ≤ 1000) : Calls Try.prog 40 #[.int .i64 (n : Int)] w (NewI w (upI 0 n)) := by
  obtain ⟨i0, hii, hiz, his, hib⟩ := info_parts int64_info
  go_enter Try.func40, Try.ntmps40
  have HO0 := Lib.hid (OwI.none0 (w := w) (D := w.heap.size) (Nat.le_refl _))
  go_wp2_with fail
  go_loopw [3, 4] (fun ov iv wr => ∃ k : Nat, iv = .int .i64 k ∧ k ≤ n ∧ (∃ A c, ov = .slice A k c ∧ Hid (OwI wr w.heap.size A k c (upI 0 k))) ∧ Hid (Ext w wr)) (fun _ iv _ => n - (intOf iv).toNat)
  case atStart => exact ⟨0, rfl, Nat.zero_le _, ⟨_, 0, rfl, HO0⟩, Lib.hid ((Ext.refl w).alloc _)⟩
  case round =>
    obtain ⟨k, rfl, hk, ⟨A, c, rfl, hO⟩, hE⟩ := hrel
    by_cases hlt : k < n
    · have hki : (k : Int) < (n : Int) := by omega
      have hsr := hE.out.size
      have HF := Lib.hid (OwI.freshP (w := wr) (k : Int)).ri
      have hcp := hO.out.cap
      have hob := hO.out.ob2
      go_wp2_with (at_builtin; go_loud (refine wpList_append_ints rfl (.tmp 11) (.tmp 13) 27 rfl i0 Try.underlying27 hii hiz his hib (D := w.heap.size) rfl (OwI.alloc hO.out _) rfl (show RI (wr.alloc (.cells #[.int .i64 (k : Int)] 2)) (some ⟨wr.heap.size, 0, none⟩) 1 [(k : Int)] from HF.out) (by omega) (by simp only [World.size_alloc]; omega) hcp.1 ?_))
      intro A3 c3 w3 hO3 hg3 hat3
      have hE3 : Ext w w3 := Ext.grown (hE.out.alloc _) hg3 (fun b hb => (hob b hb).1)
      have HO3 := Lib.hid (show OwI w3 w.heap.size A3 (k + 1) c3 (upI 0 (k + 1)) from by
        rw [upI_snoc, Int.zero_add]; exact hO3)
      clear hO3 hg3 hat3 hob HF hcp
      go_wp2
      go_roundw
      case rel => exact ⟨k + 1, by go_num, by omega, ⟨_, _, rfl, HO3⟩, Lib.hid hE3⟩
      case measure => simp only [intOf]; omega
    · obtain rfl : k = n := by omega
      go_wp2
      go_ret
      exact ⟨A, k, c, rfl, hO.out, hE.out⟩
def SfOut (w : World) (o : Option (List Int)) (e : Ending) (w' : World) : Prop := ∃ A n c, e = .returned (.tuple #[.slice A n c, .bool o.isSome]) ∧ RI w' A n (o.getD []) ∧ Ext w w'
set_option maxRecDepth 100000 in
set_option maxHeartbeats 8000000 in
theorem c_sFirstRank {v0 : Value} {s : Sy} {o : Option (List Int)} {w : World} (ho : ansF true s = o) (h0 : RdSyC w v0 s) :
    Calls Try.prog 16 #[v0] w fun e w' => SfOut w o e w' := by
  obtain ⟨A0, n0, c0, B0, m0, d0, rfl, ha, hb⟩ := h0
  have HA := Lib.hid ha
  have HB := Lib.hid hb
  have hL := ha.1.1
  clear ha hb
  cases hs : sysOk s with
  | false =>
    have hn : o = none := by rw [← ho]; unfold ansF; rw [hs]; rfl
    subst hn
    have HSO := Lib.hid hs
    clear ho hs
    go_enter Try.func16, Try.ntmps16
    go_wp2_with fail
    (with_reducible refine (c_sSystemOkF HSO.out (RdSyK.mk (RI.ext HA.out (by exact extX)) (RR.ext HB.out (by exact extX)))).mono ?_)
    rintro e w2 ⟨rfl, hE2⟩
    have HE2 := Lib.hid (show Ext w w2 by exact extX)
    clear hE2
    go_wp2_with fail
    refine bodyPost_ret (v := .tuple #[.slice (some ⟨w2.heap.size, 0, none⟩) 0 0, .bool false]) (by simp [results, Try.results16, go_sem]) rfl ?_
    exact ⟨_, 0, 0, rfl, ⟨⟨rfl, by decide⟩, by omega⟩, HE2.out.alloc _⟩
  | true =>
    have hSy := sysOk_iff.1 hs
    have h8 : s.ar.length ≤ 8 := hSy.1.2.1
    have HSP := Lib.hid hSy
    have HSO := Lib.hid hs
    have HW0 := Lib.hid (show OnG (TO true s) o (muR (upI 0 n0) + 1) (upI 0 n0) from OnG.start (upI_ok (by omega)) (by rw [← hL, ansF_gs hs]; exact ho))
    clear ho hs hSy
    go_enter Try.func16, Try.ntmps16
    go_wp2_with fail
    (with_reducible refine (c_sSystemOkF HSO.out (RdSyK.mk (RI.ext HA.out (by exact extX)) (RR.ext HB.out (by exact extX)))).mono ?_)
    rintro e w2 ⟨rfl, hE2⟩
    have b0 : w2.cell? ⟨w.heap.size, 0, none⟩ = some (.slice A0 n0 c0) := Ext.keep hE2 (by simp [go_sem])
    have b1 : w2.cell? ⟨w.heap.size, 1, none⟩ = some (.slice B0 m0 d0) := Ext.keep hE2 (by simp [go_sem])
    have HE2 := Lib.hid (show Ext w w2 by exact extX)
    clear hE2
    go_wp2_with fail
    (with_reducible refine (c_l16First (n := n0) (by omega)).mono ?_)
    rintro e w3 ⟨RA, rn, rc, rfl, hR3, hE3⟩
    have hcp3 := hR3.cap
    have HR3 := Lib.hid hR3.ri
    have k0 := Ext.keep hE3 b0
    have k1 := Ext.keep hE3 b1
    have HE3 := Lib.hid (Ext.trans HE2.out hE3)
    clear hR3 hE3 b0 b1
    go_wp2_with fail
    go_loopw [4, 5] (fun rv mv wr => ∃ more : Bool, mv = .bool more ∧ Hid (Ext w3 wr) ∧ Hid ((more = true → ∃ k RA rn rc rk, rv = .slice RA rn rc ∧ RI wr RA rn rk ∧ (rn ≤ rc ∧ rc ≤ 9223372036854775807) ∧ rk.length = n0 ∧ OnG (TO true s) o k rk) ∧ (more = false → o = none))) (fun rv mv wr => frMeas (TO true s) n0 o rv mv wr)
    case atStart => exact ⟨true, rfl, Lib.hid (Ext.refl _), Lib.hid ⟨fun _ => ⟨_, RA, rn, rc, _, rfl, HR3.out, hcp3, upI_len _ _, HW0.out⟩, fun h => by cases h⟩⟩
    case round =>
      obtain ⟨more, rfl, hEr, hI⟩ := hrel
      have HErw := Lib.hid (Ext.trans HE3.out hEr.out)
      have y0 := Ext.keep hEr.out k0
      have y1 := Ext.keep hEr.out k1
      cases more with
      | false =>
        have HN := Lib.hid (hI.out.2 rfl)
        go_wp2_with fail
        rw [HN.out]
        refine bodyPost_ret (v := .tuple #[.slice (some ⟨wr.heap.size, 0, none⟩) 0 0, .bool false]) (by simp [results, Try.results16, go_sem]) rfl ?_
        exact ⟨_, 0, 0, rfl, ⟨⟨rfl, by decide⟩, by omega⟩, HErw.out.alloc _⟩
      | true =>
        obtain ⟨_, RA, rn, rc, _, rfl, _, hcp, _, _⟩ := hI.out.1 rfl
        have hex : ∃ k, ∃ A n c rk, Value.slice RA rn rc = .slice A n c ∧ RI wr A n rk ∧ rk.length = n0 ∧ OnG (TO true s) o k rk := by
          obtain ⟨k, RA', rn', rc', rk, h0, h1, h2, h3, h4⟩ := hI.out.1 rfl
          exact ⟨k, RA', rn', rc', rk, h0, h1, h3, h4⟩
        obtain ⟨⟨A', n', c', rk, e', hX, hlen, hW⟩, _⟩ := leastOf_spec hex
        have e1 : RA = A' := by cases e'; rfl
        have e2 : rn = n' := by cases e'; rfl
        have e3 : rc = c' := by cases e'; rfl
        subst e1; subst e2; subst e3
        clear e'
        have hk : rankOk s.ar rk = true := rank_of_perm HSP.out hW.1 (by rw [hlen, hL])
        have HK := Lib.hid hk
        have HTO := Lib.hid (show TO true s rk ↔ lpAll true s rk = true by unfold TO; rw [orientsV_all HSO.out hk])
        have HX := Lib.hid hX
        have HW := Lib.hid hW
        have HLN := Lib.hid hlen
        obtain ⟨g, hg⟩ : ∃ g, lpAll true s rk = g := ⟨_, rfl⟩
        have HG := Lib.hid hg
        clear hX hW hex hg hk hlen
        go_wp2_with fail
        (with_reducible refine (c_l13OrF HG.out (RdSyK.mk (RI.ext HA.out HErw.out) (RR.ext HB.out HErw.out)) (RdI.mk HX.out) HSP.out HK.out).mono ?_)
        rintro e w5 ⟨rfl, hE5⟩
        have HE5 := Lib.hid (Ext.trans hEr.out hE5)
        have HE5w := Lib.hid (Ext.trans HErw.out hE5)
        have HX5 := Lib.hid (RI.ext HX.out hE5)
        have z0 := Ext.keep hE5 y0
        have z1 := Ext.keep hE5 y1
        clear hE5 y0 y1
        cases g with
        | true =>
          have ho : o = some rk := HW.out.yes (HTO.out.2 HG.out)
          go_wp2_with fail
          refine bodyPost_ret (v := .tuple #[.slice RA rn rc, .bool true]) (by simp [results, Try.results16, go_sem]) rfl ?_
          rw [ho]
          exact ⟨RA, rn, rc, rfl, HX5.out, HE5w.out⟩
        | false =>
          have hgo : ¬ TO true s rk := fun h => by have h2 := HTO.out.1 h; rw [HG.out] at h2; cases h2
          obtain ⟨nb, hnb⟩ : ∃ b, nextB rk = b := ⟨_, rfl⟩
          have HNB := Lib.hid hnb
          clear hnb
          go_wp2_with fail
          (with_reducible refine (c_sNextRank HX5.out hcp).mono ?_)
          rintro e w6 ⟨NA, nn, nc, rfl, hncp, hnfar, hNR, hE6⟩
          rw [HNB.out]
          have HE6 := Lib.hid (Ext.trans HE5.out hE6)
          have HNR := Lib.hid hNR
          have HNX := Lib.hid (show (nb = true → ∃ m, m < leastOf (fun k => ∃ A n c rk, Value.slice RA rn rc = .slice A n c ∧ RI wr A n rk ∧ rk.length = n0 ∧ OnG (TO true s) o k rk) ∧ OnG (TO true s) o m (nextV rk)) ∧ (nb = false → o = none) from ⟨fun e => by rw [e] at HNB; exact HW.out.next hgo HNB.out, fun e => by rw [e] at HNB; exact HW.out.stop hgo HNB.out⟩)
          have HNL := Lib.hid (show nb = true → (nextV rk).length = n0 from fun e => by rw [e] at HNB; rw [(nextV_up HNB.out).2.1]; exact HLN.out)
          clear hNR hnfar z0 z1 hE6
          go_wp2_with fail
          go_roundw
          case rel => exact ⟨nb, rfl, HE6, Lib.hid ⟨fun e => by
            obtain ⟨m, _, hm⟩ := HNX.out.1 e
            exact ⟨m, NA, nn, nc, _, rfl, HNR.out, hncp, HNL.out e, hm⟩, HNX.out.2⟩⟩
          case measure =>
            rw [frMeas_t]
            cases nb with
            | false => rw [frMeas_f]; omega
            | true =>
              rw [frMeas_t]
              obtain ⟨m, hm1', hm2⟩ := HNX.out.1 rfl
              have := leastOf_le (R := fun k => ∃ A n c rk, Value.slice NA nn nc = .slice A n c ∧ RI w6 A n rk ∧ rk.length = n0 ∧ OnG (TO true s) o k rk) ⟨NA, nn, nc, _, rfl, HNR.out, HNL.out rfl, hm2⟩
              omega
end Go.Proofs.Ytdlgjhngndpgoaa
namespace Go.Proofs.Ytdlgjhngndpgoaa
open Go.ChangeShapes Go.WideShapes Go.ChangeAt Go.RowKit Go.Joins Go.Deep
set_option linter.unusedSimpArgs false
set_option linter.unusedVariables false
set_option linter.constructorNameAsVariable false
section
variable {H : Type} {enc : TypeId × Value → H} {P : Program} {w : World} {base : Nat} {spare : Nat → Bool} {held : Bool}
theorem open_slice_fields {t e : TypeId} {fs : Array Field} {fuel : Nat} {cs : List Value} {x : DataW H × List MemPlace} (ht : P.underlying t = some (.slice e)) (he : P.underlying e = some (.struct fs))
    (hone : oneCellFields P fs = true) (hC : P.cellsOf e = fs.size) (h : DataW.trod enc P w base spare held fuel t cs = some x) :
    (cs = [.slice none 0 0] ∧ x = (.nil, [])) ∨
    ∃ (a : Addr) (len cap m : Nat) (D : Nat → DataW H) (Pl : Nat → List MemPlace), cs = [.slice (some a) len cap] ∧ base ≤ a.block ∧ len ≤ cap ∧ cap ≤ maxLen ∧ m = (if spare a.block then cap else len) ∧
      x = (.slice ((List.range len).map D) ((List.range (m - len)).map fun j => D (len + j)), MemPlace.row a (m * fs.size) ++ (List.range m).flatMap Pl) ∧
      ∀ i, i < m → ∃ (ys : List (DataW H × List MemPlace)) (n : Nat), D i = .agg (ys.map (·.1)) ∧ Pl i = ys.flatMap (·.2) ∧ ys.length = fs.size ∧
        ∀ (j : Nat) (f : Field), fs[j]? = some f → ∃ (v : Value) (y : DataW H × List MemPlace), w.cell? (a.add (i * fs.size + j)) = some v ∧ ys[j]? = some y ∧ DataW.trod enc P w base spare held n f.type [v] = some y := by
  rcases open_slice ht h with h0 | ⟨a, len, cap, m, n, D, Pl, hcs, hb, hl, hm, hmm, hx, hi⟩
  · exact .inl h0
  · refine .inr ⟨a, len, cap, m, D, Pl, hcs, hb, hl, hm, hmm, by rw [hC] at hx; exact hx, fun i him => ?_⟩
    obtain ⟨cs', hc, ht'⟩ := hi i him
    rw [hC] at hc
    obtain ⟨ys, n', hn', hy, hlen, hyl, hf⟩ := DataW.trod_struct he ht'
    obtain ⟨_, hcl, hat⟩ := World.cells?_some hc
    simp only [Prod.mk.injEq] at hy
    refine ⟨ys, n', hy.1, hy.2, hyl, fun j f hj => ?_⟩
    obtain ⟨ho, hk⟩ := hone_of hone j f hj
    have hjl : j < fs.size := (Array.getElem?_eq_some_iff.1 hj).1
    have hcell := hat j hjl
    have hv : cs'[j]? = some (cs'[j]'(by omega)) := List.getElem?_eq_getElem (by omega)
    have h1 := hf j f hj
    rw [ho, hk] at h1
    have hone' : (cs'.drop j).take 1 = [cs'[j]'(by omega)] := by
      rw [List.drop_eq_getElem_cons (by omega)]
      rfl
    rw [hone'] at h1
    have hys : ys[j]? = some (ys[j]'(by omega)) := List.getElem?_eq_getElem (by omega)
    refine ⟨_, _, ?_, hys, h1.trans hys⟩
    rw [← Go.Deep.add_add, hcell, hv]
end
end Go.Proofs.Ytdlgjhngndpgoaa
namespace Go.Proofs.Ytdlgjhngndpgoaa
open Go.RowKit
set_option linter.unusedSimpArgs false
set_option linter.unusedVariables false
structure Turn (lo hi : Nat) (w w' : World) : Prop where
  os : w'.os = w.os
  tape : w'.tape = w.tape
  output : w'.output = w.output
  size : w.heap.size ≤ w'.heap.size
  block : ∀ i, i < w.heap.size → (i < lo ∨ hi ≤ i) → w'.heap[i]? = w.heap[i]?
section
variable {lo hi : Nat} {a w w' w'' : World} {A : Option Addr} {n c D : Nat} {xs : List Int}
theorem Turn.refl (lo hi : Nat) (w : World) : Turn lo hi w w := ⟨rfl, rfl, rfl, Nat.le_refl _, fun _ _ _ => rfl⟩
theorem Turn.trans (h : Turn lo hi w w') (k : Turn lo hi w' w'') : Turn lo hi w w'' :=
  ⟨k.os.trans h.os, k.tape.trans h.tape, k.output.trans h.output, Nat.le_trans h.size k.size, fun i hi' ho => (k.block i (Nat.lt_of_lt_of_le hi' h.size) ho).trans (h.block i hi' ho)⟩
theorem Turn.of_ext (h : Ext w w') : Turn lo hi w w' := ⟨h.os, h.tape, h.output, h.size, fun i hi' _ => h.block i hi'⟩
theorem Turn.of_only (h : OnlyA w w' A) (hA : ∀ g o s, A = some ⟨g, o, s⟩ → lo ≤ g ∧ g < hi) : Turn lo hi w w' :=
  ⟨h.os, h.tape, h.output, h.size, fun i hi' ho => h.block i hi' (fun e => by
    cases A with
    | none => cases e
    | some p =>
      obtain ⟨g, o, s⟩ := p
      have e' : i = g := by simpa using e
      have := hA g o s rfl
      omega)⟩
theorem Turn.set {p : Addr} {v : Value} (hp : lo ≤ p.block ∧ p.block < hi) : Turn lo hi w (w.setCell p v) :=
  ⟨rfl, rfl, rfl, by simp [World.setCell], fun i _ ho => Below.heap_setCell w p v i (fun e => by omega)⟩
theorem Turn.cell (h : Turn lo hi w w') {b o : Nat} (hb : b < w.heap.size) (ho : b < lo ∨ hi ≤ b) : w'.cell? ⟨b, o, none⟩ = w.cell? ⟨b, o, none⟩ := World.cell?_of_block (h.block b hb ho)
theorem Turn.keep (h : Turn lo hi w w') {b o : Nat} {v : Value} (hc : w.cell? ⟨b, o, none⟩ = some v) (ho : b < lo ∨ hi ≤ b) : w'.cell? ⟨b, o, none⟩ = some v :=
  (h.cell (World.block_lt_of_cell? w _ hc) ho).trans hc
theorem RI.turn (h : RI w A n xs) (k : Turn lo hi w w') (hd : ∀ g o s, A = some ⟨g, o, s⟩ → g < lo ∨ hi ≤ g) : RI w' A n xs :=
  ⟨h.1, fun hn => by
    obtain ⟨b, o, hB, hc⟩ := h.2 hn
    exact ⟨b, o, hB, fun j x hx => k.keep (hc j x hx) (hd _ _ _ hB)⟩⟩
theorem OwI.turn (h : OwI w D A n c xs) (k : Turn lo hi w w') (hd : ∀ g o s, A = some ⟨g, o, s⟩ → g < lo ∨ hi ≤ g) : OwI w' D A n c xs := by
  refine h.heap fun g hB => ?_
  rcases h.form with ⟨h0, _⟩ | ⟨g', hB', _, hlt⟩
  · rw [h0] at hB; cases hB
  · rw [hB'] at hB; cases hB
    exact k.block g hlt (hd _ _ _ hB')
end
set_option maxHeartbeats 1000000 in
theorem c_markInts {A : Option Addr} {n c B : Nat} {xs : List Int} {k : Int} {w : World} (h0 : OwI w B A n c xs) (hk : 0 ≤ k) (hk2 : k ≤ 1000000000000000) :
    Calls Try.prog 21 #[.slice A n c, .int .i64 k] w fun e w' => e = .returned (.int .i64 (k + n)) ∧ OwI w' B A n c (marks k n) ∧ OnlyA w w' A := by
  have hn := h0.le
  have hl := h0.len
  have H0 := Lib.hid h0
  have HL := Lib.hid hl
  clear h0 hl
  go_enter Try.func21, Try.ntmps21
  go_wp2
  go_loopw [1, 5] (fun x i wr => ∃ q : Nat, i = .int .i64 q ∧ q ≤ n ∧ x = .int .i64 (k + q) ∧ Hid (OwI wr B A n c (marks k q ++ xs.drop q)) ∧ Hid (OnlyA w wr A)) (fun _ i _ => n - (intOf i).toNat)
  case atStart => exact ⟨0, rfl, Nat.zero_le _, by simp, Lib.hid (by simpa [marks] using H0.out), Lib.hid (World.grownBy.refl w _)⟩
  case round =>
    obtain ⟨q, rfl, hq, rfl, hO, hG⟩ := hrel
    by_cases hlt : q < n
    · rcases hO.out.form with ⟨rfl, rfl, _⟩ | ⟨g, rfl, hg1, hg2⟩
      · omega
      · obtain ⟨x, _, hcx, hfx⟩ := hO.out.at_ hlt
        have HS := Lib.hid (marks_set (k := k) (xs := xs) (n := q) (by rw [HL.out]; exact hlt))
        have HN := Lib.hid (OwI.set hO.out q (k + (q : Int)))
        have HG := Lib.hid (Only.trans hG.out (Only.setCell wr g q (.int .i64 (k + (q : Int)))))
        go_wp2
        go_roundw
        case rel => exact ⟨q + 1, by go_num, by omega, by go_num, Lib.hid (by rw [← HS.out]; exact HN.out), HG⟩
        case measure => simp only [intOf]; omega
    · go_wp2
      go_ret
      have hqn : q = n := by omega
      subst hqn
      refine ⟨rfl, ?_, hG.out⟩
      have := hO.out
      rwa [List.drop_of_length_le (by rw [HL.out]; exact Nat.le_refl _), List.append_nil] at this
set_option maxHeartbeats 1000000 in
theorem c_heldInts {A : Option Addr} {n c : Nat} {k : Int} {w : World} (h0 : RI w A n (marks k n)) (hk : 0 ≤ k) (hk2 : k ≤ 1000000000000000) :
    Calls Try.prog 22 #[.slice A n c, .int .i64 k] w fun e w' => e = .returned (.int .i64 (k + n)) ∧ w = w' := by
  have hn := h0.le
  have H0 := Lib.hid h0
  clear h0
  go_enter Try.func22, Try.ntmps22
  go_wp2
  go_loop [1, 5] (fun x i => ∃ q : Nat, i = .int .i64 q ∧ q ≤ n ∧ x = .int .i64 (k + q)) (fun _ i => n - (intOf i).toNat)
  case atStart => exact ⟨0, rfl, Nat.zero_le _, by simp⟩
  case round =>
    obtain ⟨q, rfl, hq, rfl⟩ := hrel
    by_cases hlt : q < n
    · obtain ⟨b, o, x, rfl, hx, hcx⟩ := RI.at_ H0.out hlt
      rw [marks_get hlt] at hx
      cases hx
      have hb : ((k + (q : Int)) != (k + (q : Int))) = false := by simp
      go_wp2
      go_round
      case rel => exact ⟨q + 1, by go_num, by omega, by go_num⟩
      case measure => simp only [intOf]; omega
    · go_wp2
      go_ret
      exact ⟨ret_int (by omega), rfl⟩
end Go.Proofs.Ytdlgjhngndpgoaa
namespace Go.Proofs.Ytdlgjhngndpgoaa
open Go.RowKit
set_option linter.unusedSimpArgs false
set_option linter.unusedVariables false
def Same (w w' : World) : Prop := ∀ b o v, w.cell? ⟨b, o, none⟩ = some v → (∃ v', w'.cell? ⟨b, o, none⟩ = some v') ∧ w'.frozen? ⟨b, o, none⟩ = w.frozen? ⟨b, o, none⟩
theorem Same.refl (w : World) : Same w w := fun b o v h => ⟨⟨v, h⟩, rfl⟩
theorem Same.trans {a b c : World} (h : Same a b) (k : Same b c) : Same a c := fun g o v hv => by
  obtain ⟨⟨v', h1⟩, h2⟩ := h g o v hv
  obtain ⟨h3, h4⟩ := k g o v' h1
  exact ⟨h3, h4.trans h2⟩
theorem Same.set (w : World) (g i : Nat) (u : Value) : Same w (w.setCell ⟨g, i, none⟩ u) := fun b o v h => by
  refine ⟨?_, World.frozen?_setCell _ _ _ _⟩
  by_cases e : (⟨b, o, none⟩ : Addr) = ⟨g, i, none⟩
  · rw [e] at h ⊢; exact ⟨u, World.cell?_setCell_same _ _ _ h⟩
  · exact ⟨v, by rw [World.cell?_setCell_other _ _ _ _ (by first | exact e | exact Ne.symm e)]; exact h⟩
theorem Same.ext {w w' : World} (h : Ext w w') : Same w w' := fun b o v hv => ⟨⟨v, Ext.keep h hv⟩, Below.frozen (p := ⟨b, o, none⟩) h (World.block_lt_of_cell? w _ hv)⟩
def FreeI (w : World) (lo hi : Nat) (A : Option Addr) (n : Nat) : Prop := n ≤ 4194304 ∧ (0 < n → ∃ g o, A = some ⟨g, o, none⟩ ∧ lo ≤ g ∧ g < hi ∧ ∀ j, j < n → (∃ v, w.cell? ⟨g, o + j, none⟩ = some v) ∧ w.frozen? ⟨g, o + j, none⟩ = false)
theorem FreeI.same {w w' : World} {lo hi n : Nat} {A : Option Addr} (h : FreeI w lo hi A n) (k : Same w w') : FreeI w' lo hi A n :=
  ⟨h.1, fun h0 => by
    obtain ⟨g, o, hA, h1, h2, h3⟩ := h.2 h0
    refine ⟨g, o, hA, h1, h2, fun j hj => ?_⟩
    obtain ⟨⟨v, hv⟩, hf⟩ := h3 j hj
    obtain ⟨h4, h5⟩ := k _ _ v hv
    exact ⟨h4, h5.trans hf⟩⟩
theorem OwI.free {w : World} {D n c : Nat} {A : Option Addr} {xs : List Int} (h : OwI w D A n c xs) : FreeI w D w.heap.size A n := by
  refine ⟨h.le, fun h0 => ?_⟩
  rcases h.form with ⟨_, h1, _⟩ | ⟨g, hA, h1, h2⟩
  · omega
  · subst hA
    refine ⟨g, 0, rfl, h1, h2, fun j hj => ?_⟩
    obtain ⟨x, _, hc, hf⟩ := h.at_ hj
    rw [Nat.zero_add]; exact ⟨⟨_, hc⟩, hf⟩
theorem FreeI.mono {w : World} {lo hi lo' hi' n : Nat} {A : Option Addr} (h : FreeI w lo hi A n) (h1 : lo' ≤ lo) (h2 : hi ≤ hi') : FreeI w lo' hi' A n :=
  ⟨h.1, fun h0 => by obtain ⟨g, o, hA, a, b, c⟩ := h.2 h0; exact ⟨g, o, hA, by omega, by omega, c⟩⟩
set_option maxHeartbeats 1000000 in
theorem c_markFree {A : Option Addr} {n c lo hi : Nat} {k : Int} {w : World} (h0 : FreeI w lo hi A n) (hk : 0 ≤ k) (hk2 : k ≤ 1000000000000000) :
    Calls Try.prog 21 #[.slice A n c, .int .i64 k] w fun e w' => e = .returned (.int .i64 (k + n)) ∧ Turn lo hi w w' ∧ Same w w' ∧ ∀ b o, (∀ g o' s, A = some ⟨g, o', s⟩ → b ≠ g) → w'.cell? ⟨b, o, none⟩ = w.cell? ⟨b, o, none⟩ := by
  have hn := h0.1
  have H0 := Lib.hid h0
  clear h0
  go_enter Try.func21, Try.ntmps21
  go_wp2
  go_loopw [1, 5] (fun x i wr => ∃ q : Nat, i = .int .i64 q ∧ q ≤ n ∧ x = .int .i64 (k + q) ∧ Hid (Turn lo hi w wr ∧ Same w wr ∧ ∀ b o, (∀ g o' s, A = some ⟨g, o', s⟩ → b ≠ g) → wr.cell? ⟨b, o, none⟩ = w.cell? ⟨b, o, none⟩)) (fun _ i _ => n - (intOf i).toNat)
  case atStart => exact ⟨0, rfl, Nat.zero_le _, by simp, Lib.hid ⟨Turn.refl _ _ _, Same.refl _, fun _ _ _ => rfl⟩⟩
  case round =>
    obtain ⟨q, rfl, hq, rfl, hT⟩ := hrel
    by_cases hlt : q < n
    · obtain ⟨g, o, hA, hg1, hg2, hc⟩ := (H0.out.same hT.out.2.1).2 (by omega)
      subst hA
      obtain ⟨⟨v, hv⟩, hf⟩ := hc q hlt
      have hqi : (q : Int) < (n : Int) := by omega
      have hq0 : (0 : Int) ≤ (q : Int) := by omega
      have hw : IntKind.i64.wrap (k + (q : Int) + 1) = k + (q : Int) + 1 := IntWalk.i64_in _ (by omega)
      have HN := Lib.hid (show Turn lo hi w (wr.setCell ⟨g, o + q, none⟩ (.int .i64 (k + (q : Int)))) ∧ Same w (wr.setCell ⟨g, o + q, none⟩ (.int .i64 (k + (q : Int)))) ∧ ∀ b o', (∀ g' o'' s, (some ⟨g, o, none⟩ : Option Addr) = some ⟨g', o'', s⟩ → b ≠ g') → (wr.setCell ⟨g, o + q, none⟩ (.int .i64 (k + (q : Int)))).cell? ⟨b, o', none⟩ = w.cell? ⟨b, o', none⟩ from
        ⟨hT.out.1.trans (Turn.set ⟨hg1, hg2⟩), hT.out.2.1.trans (Same.set _ _ _ _), fun b o' hb => by
          rw [World.cell?_setCell_other _ _ _ _ (by have := hb g o none rfl; first | (simp; done) | (simp; omega))]; exact hT.out.2.2 b o' hb⟩)
      clear hc
      go_wp2
      go_roundw
      case rel => exact ⟨q + 1, by go_num, by omega, by go_num, HN⟩
      case measure => simp only [intOf]; omega
    · go_wp2
      go_ret
      have hqn : q = n := by omega
      subst hqn
      exact ⟨rfl, hT.out⟩
def FreeR (w : World) (lo hi : Nat) (B : Option Addr) (m : Nat) : Prop := m ≤ 4194304 ∧ ∃ g, B = some ⟨g, 0, none⟩ ∧ ∀ j, j < m → ∃ (A1 : Option Addr) (n1 c1 : Nat) (A2 : Option Addr) (n2 c2 : Nat),
  w.cell? ⟨g, j * 2, none⟩ = some (.slice A1 n1 c1) ∧ w.cell? ⟨g, j * 2 + 1, none⟩ = some (.slice A2 n2 c2) ∧ FreeI w lo hi A1 n1 ∧ FreeI w lo hi A2 n2 ∧ (∀ b o s, A1 = some ⟨b, o, s⟩ → g ≠ b) ∧ ∀ b o s, A2 = some ⟨b, o, s⟩ → g ≠ b
theorem FreeR.ext {w w' : World} {lo hi m : Nat} {B : Option Addr} (h : FreeR w lo hi B m) (k : Ext w w') : FreeR w' lo hi B m := by
  obtain ⟨h1, g, hB, h2⟩ := h
  refine ⟨h1, g, hB, fun j hj => ?_⟩
  obtain ⟨A1, n1, c1, A2, n2, c2, a, b, c, d, e, f⟩ := h2 j hj
  exact ⟨A1, n1, c1, A2, n2, c2, Ext.keep k a, Ext.keep k b, c.same (Same.ext k), d.same (Same.ext k), e, f⟩
theorem OwR.free {w : World} {lo m : Nat} {B : Option Addr} {rs : List Ru} (h : OwR w lo B m rs) : FreeR w lo w.heap.size B m := by
  obtain ⟨⟨h1, h1'⟩, g, cs, rfl, _, hh, hG⟩ := h
  refine ⟨h1', g, rfl, fun j hj => ?_⟩
  have hr : rs[j]? = some (rs[j]'(by omega)) := List.getElem?_eq_getElem (by omega)
  obtain ⟨⟨A, n, c, e1, e2, e3⟩, ⟨A', n', c', f1, f2, f3⟩⟩ := hG j _ hj hr
  exact ⟨A, n, c, A', n', c', by rw [cell_of_row w g _ cs _ (0, 0) hh]; exact e1, by rw [cell_of_row w g _ cs _ (0, 0) hh]; exact f1, e2.free, f2.free, fun b o s e => (e3 b o s e).symm, fun b o s e => (f3 b o s e).symm⟩
theorem FreeR.step {w w' : World} {lo hi m g : Nat} (h : FreeR w lo hi (some ⟨g, 0, none⟩) m) (hs : Same w w') (hc : 0 < m → ∀ o, w'.cell? ⟨g, o, none⟩ = w.cell? ⟨g, o, none⟩) : FreeR w' lo hi (some ⟨g, 0, none⟩) m := by
  obtain ⟨h1, g', hB, h2⟩ := h
  cases hB
  refine ⟨h1, g, rfl, fun j hj => ?_⟩
  obtain ⟨A1, n1, c1, A2, n2, c2, a, b, c, d, e, f⟩ := h2 j hj
  exact ⟨A1, n1, c1, A2, n2, c2, (hc (by omega) _).trans a, (hc (by omega) _).trans b, c.same hs, d.same hs, e, f⟩
set_option maxRecDepth 100000 in
set_option maxHeartbeats 2000000 in
theorem c_markRuleS {B : Option Addr} {m c lo hi : Nat} {k0 : Int} {w : World} (h0 : FreeR w lo hi B m) (hk : 0 ≤ k0) (hk2 : k0 ≤ 1000000000000) :
    Calls Try.prog 47 #[.slice B m c, .int .i64 k0] w fun e w' => ∃ k1 : Int, e = .returned (.int .i64 k1) ∧ (k0 ≤ k1 ∧ k1 ≤ k0 + m * 8388608) ∧ Turn lo hi w w' := by
  have hm := h0.1
  obtain ⟨g, rfl⟩ : ∃ g, B = some ⟨g, 0, none⟩ := by obtain ⟨_, g, h, _⟩ := h0; exact ⟨g, h⟩
  have H0 := Lib.hid h0
  clear h0
  go_enter Try.func47, Try.ntmps47
  go_wp2
  go_loopw [1, 5] (fun x i wr => ∃ q : Nat, i = .int .i64 q ∧ q ≤ m ∧ (∃ y : Int, x = .int .i64 y ∧ k0 ≤ y ∧ y ≤ k0 + q * 8388608) ∧ Hid (Turn lo hi w wr ∧ FreeR wr lo hi (some ⟨g, 0, none⟩) m)) (fun _ i _ => m - (intOf i).toNat)
  case atStart => exact ⟨0, rfl, Nat.zero_le _, ⟨k0, rfl, by omega, by omega⟩, Lib.hid ⟨Turn.refl _ _ _, H0.out⟩⟩
  case round =>
    obtain ⟨q, rfl, hq, ⟨y, rfl, hy1, hy2⟩, hM⟩ := hrel
    by_cases hlt : q < m
    · obtain ⟨_, g', hB, hG⟩ := hM.out.2
      cases hB
      obtain ⟨A1, n1, c1, A2, n2, c2, hc1, hc2, hf1, hf2, hne1, hne2⟩ := hG q hlt
      have HF1 := Lib.hid hf1
      have HF2 := Lib.hid hf2
      have hn1 := hf1.1
      have hn2 := hf2.1
      have hqi : (q : Int) < (m : Int) := by omega
      have hq0 : (0 : Int) ≤ (q : Int) := by omega
      clear hG hf1 hf2
      go_wp2_with fail
      (with_reducible refine (c_markFree HF1.out (by omega) (by omega)).mono ?_)
      rintro e5 w5 ⟨rfl, hT5, hS5, hC5⟩
      have hd2 : w5.cell? ⟨g, q * 2 + 1, none⟩ = some (.slice A2 n2 c2) := (hC5 g _ hne1).trans hc2
      have HT5 := Lib.hid hT5
      have HS5 := Lib.hid hS5
      have HC5 := Lib.hid hC5
      clear hT5 hS5 hC5
      go_wp2_with fail
      (with_reducible refine (c_markFree (HF2.out.same HS5.out) (by omega) (by omega)).mono ?_)
      rintro e6 w6 ⟨rfl, hT6, hS6, hC6⟩
      have HN := Lib.hid (show Turn lo hi w w6 ∧ FreeR w6 lo hi (some ⟨g, 0, none⟩) m from ⟨(hM.out.1.trans HT5.out).trans hT6, (hM.out.2.step HS5.out (fun _ o => HC5.out g o hne1)).step hS6 (fun _ o => hC6 g o hne2)⟩)
      clear hT6 hS6 hC6
      go_wp2
      go_roundw
      case rel => exact ⟨q + 1, by go_num, by omega, ⟨_, rfl, by omega, by omega⟩, HN⟩
      case measure => simp only [intOf]; omega
    · go_wp2
      go_ret
      have hqm : q = m := by omega
      subst hqm
      exact ⟨y, rfl, ⟨hy1, hy2⟩, hM.out.1⟩
set_option maxHeartbeats 1000000 in
theorem c_markSigF {A : Option Addr} {n c lo hi : Nat} {k : Int} {w : World} (h0 : FreeI w lo hi A n) (hk : 0 ≤ k) (hk2 : k ≤ 1000000000000) :
    Calls Try.prog 46 #[.agg #[.slice A n c], .int .i64 k] w fun e w' => e = .returned (.int .i64 (k + n)) ∧ Turn lo hi w w' ∧ Same w w' ∧ ∀ b o, b < w.heap.size → (∀ g o' s, A = some ⟨g, o', s⟩ → b ≠ g) → w'.cell? ⟨b, o, none⟩ = w.cell? ⟨b, o, none⟩ := by
  have H0 := Lib.hid h0
  clear h0
  go_enter Try.func46, Try.ntmps46
  go_wp2_with (go_at_call 21; (with_reducible refine (c_markFree (lo := lo) (hi := hi) (H0.out.same (Same.ext (by exact extX))) hk (by omega)).mono ?_); rintro e w2 ⟨rfl, hT, hS, hC⟩; have HT := Lib.hid hT; have HS := Lib.hid hS; have HC := Lib.hid hC; clear hT hS hC)
  go_ret
  refine ⟨rfl, (Turn.of_ext (by exact extX)).trans HT.out, (Same.ext (by exact extX)).trans HS.out, fun b o hb h => (HC.out b o h).trans ?_⟩
  exact World.cell?_alloc_lt _ _ _ hb
set_option maxHeartbeats 2000000 in
theorem c_markSystem {A B : Option Addr} {n c m d lo hi : Nat} {k : Int} {w : World} (h0 : FreeI w lo hi A n) (h1 : FreeR w lo hi B m) (hne : ∀ b o s g o' s', A = some ⟨b, o, s⟩ → B = some ⟨g, o', s'⟩ → g ≠ b) (hA : ∀ b o s, A = some ⟨b, o, s⟩ → b < w.heap.size) (hk : 0 ≤ k) (hk2 : k ≤ 1000000000) :
    Calls Try.prog 20 #[.agg #[.slice A n c, .slice B m d], .int .i64 k] w fun e w' => ∃ k1 : Int, e = .returned (.int .i64 k1) ∧ (k ≤ k1 ∧ k1 ≤ k + 4194304 + m * 8388608) ∧ Turn lo hi w w' := by
  have hn := h0.1
  obtain ⟨g, rfl⟩ : ∃ g, B = some ⟨g, 0, none⟩ := by obtain ⟨_, g, h, _⟩ := h1; exact ⟨g, h⟩
  have H0 := Lib.hid h0
  have H1 := Lib.hid h1
  have HN := Lib.hid hne
  clear h0 h1 hne
  go_enter Try.func20, Try.ntmps20
  go_wp2_with fail
  obtain ⟨wo, hwo⟩ : ∃ wo, wo = w.alloc (.cells #[.slice A n c, .slice (some ⟨g, 0, none⟩) m d] 32) := ⟨_, rfl⟩
  have hw1 : wo.cell? ⟨w.heap.size, 1, none⟩ = some (.slice (some ⟨g, 0, none⟩) m d) := by rw [hwo]; simp [go_sem]
  have hEo : Ext w wo := by rw [hwo]; exact extX
  have hsz : w.heap.size < wo.heap.size := World.block_lt_of_cell? wo _ hw1
  have H0o := Lib.hid (H0.out.same (Same.ext hEo))
  have H1o := Lib.hid (H1.out.ext hEo)
  have hEo' := hEo
  rw [← hwo]
  clear hwo
  (with_reducible refine (c_markSigF (lo := lo) (hi := hi) H0o.out hk (by omega)).mono ?_)
  rintro e5 w5 ⟨rfl, hT5, hS5, hC5⟩
  have hd1 : w5.cell? ⟨w.heap.size, 1, none⟩ = some (.slice (some ⟨g, 0, none⟩) m d) := (hC5 _ _ hsz (fun g' o s e => by have := hA g' o s e; omega)).trans hw1
  have HT5 := Lib.hid hT5
  have HF5 := Lib.hid (H1o.out.step hS5 (fun hm o => hC5 g o (by
    obtain ⟨_, g', hB, h2⟩ := H1o.out
    cases hB
    obtain ⟨A1, n1, c1, A2, n2, c2, a, _⟩ := h2 0 hm
    exact World.block_lt_of_cell? wo _ a) (fun b o' s e => HN.out b o' s g 0 none e rfl)))
  clear hT5 hS5 hC5
  go_wp2_with fail
  (with_reducible refine (c_markRuleS HF5.out (by omega) (by omega)).mono ?_)
  rintro e6 w6 ⟨k1, rfl, ⟨hk1, hk1'⟩, hT6⟩
  have HT6 := Lib.hid (((Turn.of_ext hEo').trans HT5.out).trans hT6)
  clear hT6
  go_wp2
  go_ret
  exact ⟨k1, rfl, ⟨by omega, by omega⟩, HT6.out⟩
def NewSyO (w : World) (s : Sy) (e : Ending) (w' : World) : Prop := ∃ A n c B m, e = .returned (.agg #[.slice A n c, .slice B m m]) ∧ RI w' A n s.ar ∧ RR true w' B m s.rs ∧ FreeI w' w.heap.size w'.heap.size A n ∧ FreeR w' w.heap.size w'.heap.size B m ∧ (∀ b o s g o' s', A = some ⟨b, o, s⟩ → B = some ⟨g, o', s'⟩ → g ≠ b) ∧ (∀ b o s, A = some ⟨b, o, s⟩ → b < w'.heap.size) ∧ Ext w w'
theorem FreeR.lower {w : World} {lo lo' hi m : Nat} {B : Option Addr} (h : FreeR w lo hi B m) (hl : lo' ≤ lo) : FreeR w lo' hi B m := by
  obtain ⟨h1, g, hB, h2⟩ := h
  refine ⟨h1, g, hB, fun j hj => ?_⟩
  obtain ⟨A1, n1, c1, A2, n2, c2, a, b, c, d, e, f⟩ := h2 j hj
  exact ⟨A1, n1, c1, A2, n2, c2, a, b, c.mono hl (Nat.le_refl _), d.mono hl (Nat.le_refl _), e, f⟩
set_option maxHeartbeats 2000000 in
theorem c_toSystemO {v : Value} {s : Sy} {w : World} (h0 : RdSy w v s) : Calls Try.prog 17 #[v] w (NewSyO w s) := by
  obtain ⟨A, n, c, B, m, d, rfl, ha, hb⟩ := h0
  have HA := Lib.hid ha
  have HB := Lib.hid hb
  clear ha hb
  go_enter Try.func17, Try.ntmps17
  go_wp2_with (first
    | (go_at_call 42; (with_reducible refine (c_toSig (ar := s.ar) (RdSig.mk (RI.ext HA.out (by exact extX)))).mono ?_); rintro e w1 ⟨A1, n1, c1, rfl, hO1, hE1⟩; have HA1 := Lib.hid (OwI.bd hO1); have HR1 := Lib.hid (OwI.ri hO1); have HO1 := Lib.hid (OwI.lower (B' := w.heap.size) hO1 (by go_size)); clear hO1; have hz1 := sz_of hE1; (try simp only [World.size_alloc, World.size_setCell, World.size_drew] at hz1); obtain ⟨hc1, hf1⟩ := bcell hE1; (try have hq1_0 : w.heap.size < w1.heap.size := by omega); (try have hq1_1 : w.heap.size + 1 < w1.heap.size := by omega); (try have hq1_2 : w.heap.size + 1 + 1 < w1.heap.size := by omega); (try have hq1_3 : w.heap.size + 1 + 1 + 1 < w1.heap.size := by omega); (try have hq1_4 : w.heap.size + 1 + 1 + 1 + 1 < w1.heap.size := by omega); (try have hq1_5 : w.heap.size + 1 + 1 + 1 + 1 + 1 < w1.heap.size := by omega))
    | (go_at_call 43; (with_reducible refine (c_toRuleS (rs := s.rs) (RR.ext HB.out (by exact extX))).mono ?_); rintro e w2 ⟨B2, rfl, hR2, hE2⟩; have HR2 := Lib.hid hR2; clear hR2; have hz2 := sz_of hE2; (try simp only [World.size_alloc, World.size_setCell, World.size_drew] at hz2); obtain ⟨hc2, hf2⟩ := bcell hE2; (try have hq2_0 : w.heap.size < w2.heap.size := by omega); (try have hq2_1 : w.heap.size + 1 < w2.heap.size := by omega); (try have hq2_2 : w.heap.size + 1 + 1 < w2.heap.size := by omega); (try have hq2_3 : w.heap.size + 1 + 1 + 1 < w2.heap.size := by omega); (try have hq2_4 : w.heap.size + 1 + 1 + 1 + 1 < w2.heap.size := by omega); (try have hq2_5 : w.heap.size + 1 + 1 + 1 + 1 + 1 < w2.heap.size := by omega); (try have hx2_1 : w1.heap.size < w2.heap.size := by omega)))
  refine bodyPost_ret (v := .agg #[.slice A1 n1 c1, .slice B2 m m]) (by simp [results, Try.results17, go_sem, hc1, hc2, hq1_0, hq1_1, hq1_2, hq2_0, hq2_1, hq2_2]) rfl ?_
  obtain ⟨lo, h5, h6, h7⟩ : ∃ lo, OwR w2 lo B2 m s.rs ∧ w.heap.size + 3 ≤ lo ∧ w1.heap.size ≤ lo := ⟨_, HR2.out, by simp [go_sem]; omega, by simp [go_sem]⟩
  refine ⟨A1, n1, c1, B2, m, rfl, ?_, ?_, ?_, ?_, ?_, ?_, ?_⟩
  · exact OwI.ri (B := w.heap.size) (c := c1) (by (repeat' (first | (with_reducible refine OwI.setFar ?_ _ (far_lt HA1.out ?_)) | (with_reducible refine OwI.alloc ?_ _) | (with_reducible refine OwI.drewN ?_ _) | (with_reducible exact HO1.out) | (with_reducible refine OwI.ext ?_ (by with_reducible assumption)) | (left; go_size) | (right; go_size))))
  · refine OwR.rr (lo := lo) ?_
    (repeat' (first | (with_reducible exact h5) | (with_reducible refine OwR.setFar ?_ _ ?_) | (simp; omega)))
  · exact OwI.free (D := w.heap.size) (c := c1) (xs := s.ar) (by (repeat' (first | (with_reducible refine OwI.setFar ?_ _ (far_lt HA1.out ?_)) | (with_reducible refine OwI.alloc ?_ _) | (with_reducible refine OwI.drewN ?_ _) | (with_reducible exact HO1.out) | (with_reducible refine OwI.ext ?_ (by with_reducible assumption)) | (left; go_size) | (right; go_size))))
  · refine FreeR.lower (OwR.free (lo := lo) (rs := s.rs) ?_) (by omega)
    (repeat' (first | (with_reducible exact h5) | (with_reducible refine OwR.setFar ?_ _ ?_) | (simp; omega)))
  · intro b o s' g o' s'' e1 e2
    have h8 := (HA1.out b o s' e1).2
    obtain ⟨_, g', cs, hB, hg, _⟩ := h5
    rw [e2] at hB; cases hB
    omega
  · intro b o s' e1; have h8 := (HA1.out b o s' e1).2; have h9 := hE2.size; simp [go_sem] at h9 ⊢; omega
  · exact extX
end Go.Proofs.Ytdlgjhngndpgoaa
