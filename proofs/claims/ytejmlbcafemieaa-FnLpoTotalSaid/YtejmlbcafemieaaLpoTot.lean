/- FnLpoTotal, its contracts and its law on numbers. -/
import Derived.Test.YtejmlbcafemieaaMLpoT
import Derived.Test.YtejmlbcafemieaaLpoMI
import Derived.Test.YtejmlbcafemieaaLpsA
import Derived.Test.YtejmlbcafemieaaDicW
namespace Go.Proofs.Ytejmlbcafemieaa
open Go.RowKit
set_option linter.unusedSimpArgs false
set_option linter.unusedVariables false

theorem scan_cong {f g : Int → Option Nat} : ∀ {t : List Int} {n : Nat}, (∀ x ∈ t, f x = g x) → scan f t n = scan g t n
  | t, 0, _ => by rw [scan_zero, scan_zero]
  | [], n + 1, _ => rfl
  | x :: t, n + 1, h => by
    have hx := h x List.mem_cons_self
    have ht : ∀ y ∈ t, f y = g y := fun y hy => h y (List.mem_cons_of_mem _ hy)
    rcases e : f x with _ | k
    · rw [scan_cons_none e, scan_cons_none (by rw [← hx]; exact e)]
    · rw [scan_cons_some e, scan_cons_some (show g x = some k by rw [← hx]; exact e), scan_cong ht]
/-- The first argument's end. -/
theorem endS_arg {ar : List Int} {x : Int} {a : Tm} {us : List Tm} (ha : a.Ok ar) (hg : ∀ y ∈ (Tm.node x (a :: us)).flat, 0 ≤ y) : endS ar (Tm.node x (a :: us)).flat 1 = ((1 + a.flat.length : Nat) : Int) := by
  have hd : (Tm.node x (a :: us)).flat.drop 1 = a.flat ++ flatL us := by rw [flat_node, flatL_cons]; rfl
  have hgt : ∀ y ∈ a.flat ++ flatL us, 0 ≤ y := fun y hy => hg y (by rw [flat_node, flatL_cons]; exact List.mem_cons_of_mem _ hy)
  unfold endS endF
  rw [hd, scan_cong (g := arI ar) (fun y hy => by have := hgt y hy; exact arS_arI (by omega)), show (1 : Nat) = 0 + 1 from rfl, scan_flat a ha, scan_zero]
  simp
theorem c_l1There {v : Value} {t : List Int} {x : Int} {b : Bool} {w : World} (hb : decide (0 ≤ x ∧ x < t.length) = b) (h1 : RdI w v t) :
    Calls Try.prog 62 #[v, .int .i64 x] w fun e w' => e = .returned (.bool b) ∧ Ext w w' := by
  obtain ⟨A, n, c, rfl, ha⟩ := h1
  have hn := ha.le
  have hl := ha.len
  by_cases h : 0 ≤ x ∧ x ≤ (n : Int) - 1
  · have hbt : b = true := by rw [← hb, hl]; simp; omega
    subst hbt
    go_enter Try.func62, Try.ntmps62
    go_wp2_with fail
    (with_reducible refine (q_l1In_t h).mono ?_)
    rintro e w2 ⟨rfl, rfl⟩
    go_wp2
    go_ret
    exact ⟨rfl, Ext.refl _⟩
  · have hbf : b = false := by rw [← hb, hl]; simp; omega
    subst hbf
    go_enter Try.func62, Try.ntmps62
    go_wp2_with fail
    (with_reducible refine (q_l1In_f h).mono ?_)
    rintro e w2 ⟨rfl, rfl⟩
    go_wp2
    go_ret
    exact ⟨rfl, Ext.refl _⟩
theorem c_l1EndB {v0 v1 : Value} {ar t : List Int} {p : Int} {f : Nat} {w : World} (hf : endS ar t p.toNat = (f : Int)) (h0 : RdSig w v0 ar) (h1 : RdI w v1 t) (hs : SigP ar) (hp0 : 0 ≤ p) (hp : p ≤ t.length) :
    Calls Try.prog 100 #[v0, v1, .int .i64 p] w fun e w' => e = .returned (.int .i64 (f : Int)) ∧ Ext w w' := by rw [← hf]; exact c_l1End h0 h1 hs hp0 hp
theorem c_sTermOkB {v0 v1 : Value} {ar t : List Int} {b : Bool} {w : World} (hb : termOk ar t = b) (h0 : RdSig w v0 ar) (h1 : RdI w v1 t) :
    Calls Try.prog 51 #[v0, v1] w fun e w' => e = .returned (.bool b) ∧ Ext w w' := by subst hb; exact c_sTermOk h0 h1
set_option maxRecDepth 100000 in
set_option maxHeartbeats 2000000 in
theorem c_l1Sub1 {v0 : Value} {ar : List Int} {x : Int} {a : Tm} {us : List Tm} {A : Option Addr} {n c : Nat} {w : World} (h0 : RdSig w v0 ar) (h1 : RI w A n (Tm.node x (a :: us)).flat) (hc : n ≤ c ∧ c ≤ 9223372036854775807) (hs : SigP ar) (ha : a.Ok ar) (hg : ∀ y ∈ (Tm.node x (a :: us)).flat, 0 ≤ y) :
    Calls Try.prog 63 #[v0, .slice A n c, .int .i64 1] w (NewI w a.flat) := by
  obtain ⟨D, q, l, rfl, hd⟩ := h0
  have hln := h1.len
  have hfl : (Tm.node x (a :: us)).flat.length = 1 + a.flat.length + (flatL us).length := by rw [flat_node, flatL_cons]; simp; omega
  have hpos := flat_pos a
  obtain ⟨b, o, hA⟩ : ∃ b o, A = some ⟨b, o, none⟩ := by obtain ⟨b, o, e, _⟩ := h1.2 (by omega); exact ⟨b, o, e⟩
  subst hA
  obtain ⟨f, hf⟩ : ∃ f : Nat, f = 1 + a.flat.length := ⟨_, rfl⟩
  have HF := Lib.hid (show endS ar (Tm.node x (a :: us)).flat (1 : Int).toNat = (f : Int) by rw [hf]; exact endS_arg ha hg)
  have HD := Lib.hid hd
  have H1 := Lib.hid h1
  have HS := Lib.hid hs
  have HL := Lib.hid (show (1 : Int) ≤ (Tm.node x (a :: us)).flat.length by omega)
  have HSUB := Lib.hid (show RI w (some ⟨b, o + 1, none⟩) (f - 1) a.flat from by
    refine ⟨⟨by omega, by have := h1.le; omega⟩, fun h2 => ?_⟩
    obtain ⟨b', o', e, hcc⟩ := h1.2 (by omega)
    cases e
    refine ⟨b, o + 1, rfl, fun j y hy => ?_⟩
    rw [Nat.add_assoc]
    refine hcc (1 + j) y ?_
    rw [flat_node, flatL_cons, Nat.add_comm 1 j, List.getElem?_cons_succ, List.getElem?_append_left (List.getElem?_eq_some_iff.1 hy).1]; exact hy)
  have hfi : (1 : Int) ≤ (f : Int) := by omega
  have hfc : (f : Int) ≤ (c : Int) := by omega
  have hc1 : ¬ c = 1 := by omega
  clear hd h1 hs hf
  go_enter Try.func63, Try.ntmps63
  go_wp2_with fail
  (with_reducible refine (c_l1EndB HF.out (RdSig.mk (RI.ext HD.out (by (repeat' (first | (with_reducible exact Ext.refl _) | (with_reducible assumption) | (with_reducible refine Ext.alloc ?_ _) | (with_reducible refine Ext.set ?_ ?_ _) | (with_reducible refine Ext.drewN ?_ _) | (with_reducible refine Ext.drew ?_) | (with_reducible refine Ext.trans ?_ (by with_reducible assumption)) | go_size))))) (RdI.mk (RI.ext H1.out (by (repeat' (first | (with_reducible exact Ext.refl _) | (with_reducible assumption) | (with_reducible refine Ext.alloc ?_ _) | (with_reducible refine Ext.set ?_ ?_ _) | (with_reducible refine Ext.drewN ?_ _) | (with_reducible refine Ext.drew ?_) | (with_reducible refine Ext.trans ?_ (by with_reducible assumption)) | go_size))))) HS.out (by omega) HL.out).mono ?_)
  rintro e w2 ⟨rfl, hE2⟩
  go_wp2_with fail
  (with_reducible refine (c_l1Copy (RI.ext HSUB.out (by (repeat' (first | (with_reducible exact Ext.refl _) | (with_reducible assumption) | (with_reducible refine Ext.alloc ?_ _) | (with_reducible refine Ext.set ?_ ?_ _) | (with_reducible refine Ext.drewN ?_ _) | (with_reducible refine Ext.drew ?_) | (with_reducible refine Ext.trans ?_ (by with_reducible assumption)) | go_size))))).mono ?_)
  rintro e w3 ⟨A3, n3, c3, rfl, hO3, hE3⟩
  have HO3 := Lib.hid (hO3.lower (B' := w.heap.size) (by have := hE2.size; simp at this; omega))
  clear hO3
  go_wp2
  go_ret
  exact ⟨A3, n3, c3, rfl, HO3.out, by (repeat' (first | (with_reducible exact Ext.refl _) | (with_reducible assumption) | (with_reducible refine Ext.alloc ?_ _) | (with_reducible refine Ext.set ?_ ?_ _) | (with_reducible refine Ext.drewN ?_ _) | (with_reducible refine Ext.drew ?_) | (with_reducible refine Ext.trans ?_ (by with_reducible assumption)) | go_size))⟩
set_option maxRecDepth 100000 in
set_option maxHeartbeats 2000000 in
theorem c_subAt1 {v0 : Value} {ar : List Int} {x : Int} {a : Tm} {us : List Tm} {A : Option Addr} {n c : Nat} {w : World} (h0 : RdSig w v0 ar) (h1 : RI w A n (Tm.node x (a :: us)).flat) (hc : n ≤ c ∧ c ≤ 9223372036854775807) (hs : TermP ar (Tm.node x (a :: us)).flat) (ha : a.Ok ar) (hg : ∀ y ∈ (Tm.node x (a :: us)).flat, 0 ≤ y) :
    Calls Try.prog 29 #[v0, .slice A n c, .int .i64 1] w (NewI w a.flat) := by
  obtain ⟨D, q, l, rfl, hd⟩ := h0
  have HD := Lib.hid hd
  have H1 := Lib.hid h1
  have HT := Lib.hid (termOk_iff.2 hs)
  have HS := Lib.hid hs.1
  have HA := Lib.hid ha
  have HG := Lib.hid hg
  have HIN := Lib.hid (show decide ((0 : Int) ≤ 1 ∧ (1 : Int) < (Tm.node x (a :: us)).flat.length) = true by
    rw [flat_node, flatL_cons]; have := flat_pos a; simp; omega)
  clear hd h1 hs ha hg
  go_enter Try.func29, Try.ntmps29
  go_wp2_with fail
  (with_reducible refine (c_sTermOkB HT.out (RdSig.mk (RI.ext HD.out (by (repeat' (first | (with_reducible exact Ext.refl _) | (with_reducible assumption) | (with_reducible refine Ext.alloc ?_ _) | (with_reducible refine Ext.set ?_ ?_ _) | (with_reducible refine Ext.drewN ?_ _) | (with_reducible refine Ext.drew ?_) | (with_reducible refine Ext.trans ?_ (by with_reducible assumption)) | go_size))))) (RdI.mk (RI.ext H1.out (by (repeat' (first | (with_reducible exact Ext.refl _) | (with_reducible assumption) | (with_reducible refine Ext.alloc ?_ _) | (with_reducible refine Ext.set ?_ ?_ _) | (with_reducible refine Ext.drewN ?_ _) | (with_reducible refine Ext.drew ?_) | (with_reducible refine Ext.trans ?_ (by with_reducible assumption)) | go_size)))))).mono ?_)
  rintro e w2 ⟨rfl, hE2⟩
  have hb2 : w2.cell? ⟨w.heap.size, 0, none⟩ = some (.slice D q l) := Ext.keep hE2 (by simp [go_sem])
  go_wp2_with fail
  (with_reducible refine (c_l1There HIN.out (RdI.mk (RI.ext H1.out (by (repeat' (first | (with_reducible exact Ext.refl _) | (with_reducible assumption) | (with_reducible refine Ext.alloc ?_ _) | (with_reducible refine Ext.set ?_ ?_ _) | (with_reducible refine Ext.drewN ?_ _) | (with_reducible refine Ext.drew ?_) | (with_reducible refine Ext.trans ?_ (by with_reducible assumption)) | go_size)))))).mono ?_)
  rintro e w3 ⟨rfl, hE3⟩
  have hb3 := Ext.keep hE3 hb2
  have hE03 : Ext w w3 := by (repeat' (first | (with_reducible exact Ext.refl _) | (with_reducible assumption) | (with_reducible refine Ext.alloc ?_ _) | (with_reducible refine Ext.set ?_ ?_ _) | (with_reducible refine Ext.drewN ?_ _) | (with_reducible refine Ext.drew ?_) | (with_reducible refine Ext.trans ?_ (by with_reducible assumption)) | go_size))
  go_wp2_with fail
  (with_reducible refine (c_l1Sub1 (RdSig.mk (RI.ext HD.out hE03)) (RI.ext H1.out hE03) hc HS.out HA.out HG.out).mono ?_)
  rintro e w4 ⟨A4, n4, c4, rfl, hO4, hE4⟩
  have HO4 := Lib.hid (hO4.lower (sz_of hE03))
  clear hO4
  go_wp2
  go_ret
  exact ⟨A4, n4, c4, rfl, HO4.out, Ext.trans hE03 hE4⟩
abbrev arL : List Int := [2, 1, 0]
theorem sigL : SigP arL := sigOk_iff.1 (by first | rfl | decide | simp [sigOk, SigP])
theorem termL {u : Tm} (h : u.Ok arL) (hl : u.flat.length ≤ 60) (hg : ∀ x ∈ u.flat, -24 ≤ x) : TermP arL u.flat := by
  refine ⟨sigL, ⟨flat_pos u, hl⟩, hg, ?_⟩
  have := scan_flat u h [] 0
  rw [List.append_nil] at this
  rw [show (1 : Nat) = 0 + 1 from rfl, this, scan_zero]
  simp
theorem dom_of {ar rk : List Int} (h : RankP ar rk) : Dom ar (rkF rk) := ⟨by
  intro x y hx hx2 hy hy2 e
  obtain ⟨_, hl, hall⟩ := h
  obtain ⟨i, rfl⟩ := Int.eq_ofNat_of_zero_le hx
  obtain ⟨j, rfl⟩ := Int.eq_ofNat_of_zero_le hy
  have hi : i < rk.length := by omega
  have hj : j < rk.length := by omega
  have e1 : rkF rk (i : Int) = rk[i] := by unfold rkF; simp [List.getD_eq_getElem?_getD, List.getElem?_eq_getElem hi]
  have e2 : rkF rk (j : Int) = rk[j] := by unfold rkF; simp [List.getD_eq_getElem?_getD, List.getElem?_eq_getElem hj]
  rcases Nat.lt_trichotomy i j with h | h | h
  · exact (rank_distinct hall h (List.getElem?_eq_getElem hi) (by rw [List.getElem?_eq_getElem hj, ← e2, ← e, e1])).elim
  · rw [h]
  · exact (rank_distinct hall h (List.getElem?_eq_getElem hj) (by rw [List.getElem?_eq_getElem hi, ← e1, e, e2])).elim⟩
section
variable {rk : List Int} {a b c : Tm}
/-- What is known of a term that has been thrown. -/
structure TmL (u : Tm) : Prop where
  inD : InD arL u
  ok : TermP arL u.flat
theorem lpoA_W (ha : TmL a) (hb : TmL b) : lpoA arL rk true a.flat b.flat = lpoW (rkF rk) true b a := by
  unfold lpoA
  rw [subT_eq ha.ok ha.inD.1 (rest := []) (by simp), subT_eq hb.ok hb.inD.1 (rest := []) (by simp)]
theorem args_L (hR : RankP arL rk) (ha : TmL a) (hb : TmL b) : lpoArgs arL rk a.flat b.flat = true := by
  unfold lpoArgs
  rw [termOk_iff.2 ha.ok, termOk_iff.2 hb.ok, rankOk_iff.2 hR]; rfl
theorem less_L (hR : RankP arL rk) (ha : TmL a) (hb : TmL b) : lpoLessV arL rk a.flat b.flat = true ↔ G (rkF rk) b a := by
  unfold lpoLessV G
  rw [args_L hR ha hb, lpoA_W ha hb]; simp
theorem flat_L (ha : TmL a) (hb : TmL b) (h : a.flat = b.flat) : a = b := (flat_inj a b ha.inD.1 hb.inD.1 [] [] (by rw [h])).1
theorem cmp_L (hR : RankP arL rk) (ha : TmL a) (hb : TmL b) :
    (lpoCmpV arL rk a.flat b.flat = 0 ↔ a.flat = b.flat) ∧ (-1 ≤ lpoCmpV arL rk a.flat b.flat ∧ lpoCmpV arL rk a.flat b.flat ≤ 1) ∧ lpoCmpV arL rk b.flat a.flat = -lpoCmpV arL rk a.flat b.flat ∧ (lpoCmpV arL rk a.flat b.flat = -1 ↔ G (rkF rk) b a) := by
  have hD := dom_of hR
  unfold lpoCmpV
  rw [if_pos (args_L hR ha hb), if_pos (args_L hR hb ha), lpoA_W ha hb, lpoA_W hb ha]
  by_cases e : a.flat = b.flat
  · have hab := flat_L ha hb e
    subst hab
    have h1 : ¬ 0 < lpoW (rkF rk) true a a := G_irr (rk := rkF rk) ha.inD
    simp [G, h1]
  · have hne : a ≠ b := fun h => e (by rw [h])
    have e' : ¬ b.flat = a.flat := fun h => e h.symm
    rcases G_tot hD _ b a (Nat.le_refl _) hb.inD ha.inD (fun h => hne h.symm) with h | h
    · have h1 : 0 < lpoW (rkF rk) true b a := h
      have h2 : ¬ 0 < lpoW (rkF rk) true a b := G_asym (rk := rkF rk) hb.inD ha.inD h
      simp [G, h1, h2, e, e']
    · have h1 : 0 < lpoW (rkF rk) true a b := h
      have h2 : ¬ 0 < lpoW (rkF rk) true b a := G_asym (rk := rkF rk) ha.inD hb.inD h
      simp [G, h1, h2, e, e']
theorem lpoMaxGo_spec {ar rk : List Int} {ts : List (List Int)} : ∀ {l : List (List Int)} {k0 : Nat}, (∃ (j : Nat) (t : List Int), l[j]? = some t ∧ topAt ar rk ts t = true) → ∃ (j : Nat) (t : List Int), l[j]? = some t ∧ topAt ar rk ts t = true ∧ lpoMaxGo ar rk ts l k0 = ((k0 + j : Nat) : Int)
  | [], _, ⟨j, t, h, _⟩ => by simp at h
  | u :: l, k0, ⟨j, t, h, ht⟩ => by
    by_cases hu : topAt ar rk ts u = true
    · exact ⟨0, u, rfl, hu, by unfold lpoMaxGo; rw [if_pos hu]; rfl⟩
    · cases j with
      | zero => cases h; exact absurd ht hu
      | succ j =>
        obtain ⟨i, t', h1, h2, h3⟩ := lpoMaxGo_spec (l := l) (k0 := k0 + 1) ⟨j, t, by simpa using h, ht⟩
        exact ⟨i + 1, t', by simpa using h1, h2, by unfold lpoMaxGo; rw [if_neg hu, h3]; congr 1; omega⟩
theorem top_L (ha : TmL a) (hb : TmL b) (hc : TmL c) {t : Tm} (ht : TmL t) : topAt arL rk [a.flat, b.flat, c.flat] t.flat = true ↔ ¬ G (rkF rk) a t ∧ ¬ G (rkF rk) b t ∧ ¬ G (rkF rk) c t := by
  unfold topAt G
  simp only [List.all_cons, List.all_nil, Bool.and_true, Bool.and_eq_true, decide_eq_true_eq]
  rw [lpoA_W ht ha, lpoA_W ht hb, lpoA_W ht hc]
  omega
/-- The greatest one of three. -/
theorem great_L (hR : RankP arL rk) (ha : TmL a) (hb : TmL b) (hc : TmL c) : ∃ (k : Nat) (t : Tm), lpoMaxV arL rk [a.flat, b.flat, c.flat] = (k : Int) ∧ k ≤ 2 ∧ ([a, b, c] : List Tm)[k]? = some t ∧ ¬ G (rkF rk) a t ∧ ¬ G (rkF rk) b t ∧ ¬ G (rkF rk) c t := by
  have hok : lpoMaxOk arL rk [a.flat, b.flat, c.flat] = true := by
    unfold lpoMaxOk
    simp [termOk_iff.2 ha.ok, termOk_iff.2 hb.ok, termOk_iff.2 hc.ok, rankOk_iff.2 hR]
  unfold lpoMaxV
  rw [if_pos hok]
  have hex : ∃ (j : Nat) (t : List Int), [a.flat, b.flat, c.flat][j]? = some t ∧ topAt arL rk [a.flat, b.flat, c.flat] t = true := by
    rcases G_top (rk := rkF rk) ha.inD hb.inD hc.inD with h | h | h
    · exact ⟨0, _, rfl, (top_L ha hb hc ha).2 h⟩
    · exact ⟨1, _, rfl, (top_L ha hb hc hb).2 h⟩
    · exact ⟨2, _, rfl, (top_L ha hb hc hc).2 h⟩
  obtain ⟨j, t, h1, h2, h3⟩ := lpoMaxGo_spec (k0 := 0) hex
  match j, h1 with
  | 0, h1 => cases h1; exact ⟨0, a, by simpa using h3, by omega, rfl, (top_L ha hb hc ha).1 h2⟩
  | 1, h1 => cases h1; exact ⟨1, b, by simpa using h3, by omega, rfl, (top_L ha hb hc hb).1 h2⟩
  | 2, h1 => cases h1; exact ⟨2, c, by simpa using h3, by omega, rfl, (top_L ha hb hc hc).1 h2⟩
  | j + 3, h1 => simp at h1
theorem TmL.arg {x : Int} {us : List Tm} (h : TmL (.node x (a :: us))) : TmL a := by
  have h1 := h.inD.arg (a := a) (show a ∈ (Tm.node x (a :: us)).as from List.mem_cons_self)
  refine ⟨h1, termL h1.1 ?_ fun y hy => by have := h1.2 y hy; omega⟩
  have := h.ok.2.1.2
  rw [flat_node, flatL_cons] at this
  simp at this; omega
theorem why_L {x : Int} {us : List Tm} (hR : RankP arL rk) (h : TmL (.node x (a :: us))) : lpoWhyV arL rk a.flat (Tm.node x (a :: us)).flat = 1 ∧ lpoLessV arL rk a.flat (Tm.node x (a :: us)).flat = true := by
  have ha := h.arg
  have hg : G (rkF rk) (.node x (a :: us)) a := G_arg h.inD (show a ∈ (Tm.node x (a :: us)).as from List.mem_cons_self)
  refine ⟨?_, (less_L hR ha h).2 hg⟩
  unfold lpoWhyV
  rw [if_pos (args_L hR ha h), lpoA_W ha h, lpoW_eq]
  unfold lpoB
  have h0 := h.inD.hd.1
  rw [if_neg (by omega), if_pos]
  · rfl
  · unfold argG
    rw [List.any_eq_true]
    exact ⟨a, List.mem_cons_self, by simp⟩
end
theorem c_cmpB {v0 v1 v2 v3 : Value} {ar rk s t : List Int} {x : Int} {w : World} (hx : lpoCmpV ar rk s t = x) (h0 : RdSig w v0 ar) (h1 : RdI w v1 rk) (h2 : RdIc w v2 s) (h3 : RdIc w v3 t) :
    Calls Try.prog 26 #[v0, v1, v2, v3] w fun e w' => e = .returned (.int .i64 x) ∧ Ext w w' := by subst hx; exact c_iLpoCompare h0 h1 h2 h3
theorem c_lessB {v0 v1 v2 v3 : Value} {ar rk s t : List Int} {b : Bool} {w : World} (hb : lpoLessV ar rk s t = b) (h0 : RdSig w v0 ar) (h1 : RdI w v1 rk) (h2 : RdIc w v2 s) (h3 : RdIc w v3 t) :
    Calls Try.prog 28 #[v0, v1, v2, v3] w fun e w' => e = .returned (.bool b) ∧ Ext w w' := by subst hb; exact c_iLpoLess h0 h1 h2 h3
theorem c_whyB {v0 v1 v2 v3 : Value} {ar rk s t : List Int} {x : Int} {w : World} (hx : lpoWhyV ar rk s t = x) (h0 : RdSig w v0 ar) (h1 : RdI w v1 rk) (h2 : RdIc w v2 s) (h3 : RdIc w v3 t) :
    Calls Try.prog 30 #[v0, v1, v2, v3] w fun e w' => e = .returned (.int .i64 x) ∧ Ext w w' := by subst hx; exact c_iLpoWhy h0 h1 h2 h3
theorem c_greatB {v0 v1 v2 : Value} {ar rk : List Int} {ts : List (List Int)} {x : Int} {w : World} (hx : lpoMaxV ar rk ts = x) (h0 : RdSig w v0 ar) (h1 : RdI w v1 rk) (h2 : RdSc w v2 ts) :
    Calls Try.prog 15 #[v0, v1, v2] w fun e w' => e = .returned (.int .i64 x) ∧ Ext w w' := by subst hx; exact c_iLpoGreatest h0 h1 h2
theorem RS.three {w : World} {g : Nat} {A B C : Option Addr} {n c m d k l : Nat} {xs ys zs : List Int} {T : TypeId} (hh : w.heap[g]? = some (.cells #[.slice A n c, .slice B m d, .slice C k l] T (0, 0))) (h1 : RdIc w (.slice A n c) xs) (h2 : RdIc w (.slice B m d) ys) (h3 : RdIc w (.slice C k l) zs) :
    RS w (some ⟨g, 0, none⟩) 3 [xs, ys, zs] := by
  refine ⟨⟨rfl, by omega⟩, fun j us hu => ?_⟩
  match j, hu with
  | 0, hu => cases hu; exact ⟨g, 0, _, rfl, by rw [cell_of_row w g _ _ _ (0, 0) hh]; rfl, h1⟩
  | 1, hu => cases hu; exact ⟨g, 0, _, rfl, by rw [cell_of_row w g _ _ _ (0, 0) hh]; rfl, h2⟩
  | 2, hu => cases hu; exact ⟨g, 0, _, rfl, by rw [cell_of_row w g _ _ _ (0, 0) hh]; rfl, h3⟩

end Go.Proofs.Ytejmlbcafemieaa
