/- Several texts in one: MOri, Parts, MOften, Wraps, Held, Lpo, LpoR. -/
import Derived.Test.YtdlgjhngndpgoaaQ17
import Derived.Test.YtdlgjhngndpgoaaQ10
import Derived.Test.YtdlgjhngndpgoaaQ12
import Derived.Test.YtdlgjhngndpgoaaQ13
import Derived.Test.YtdlgjhngndpgoaaQ14
import Derived.Deep.RegionHeld3
namespace Go.Proofs.Ytdlgjhngndpgoaa
def LpAll (lex : Bool) (s : Sy) (rk : List Int) : Prop := ∀ (j : Nat) (r : Ru), s.rs[j]? = some r → lpoA s.ar rk lex r.r r.l ≠ 0
noncomputable def lpAll (lex : Bool) (s : Sy) (rk : List Int) : Bool := @decide (LpAll lex s rk) (Classical.propDecidable _)
theorem lpAll_f {lex : Bool} {s : Sy} {rk : List Int} {j : Nat} {r : Ru} (hr : s.rs[j]? = some r) (h : lpoA s.ar rk lex r.r r.l = 0) : lpAll lex s rk = false := by
  simp only [lpAll, decide_eq_false_iff_not]; exact fun a => a j r hr h
theorem lpAll_t {lex : Bool} {s : Sy} {rk : List Int} (h : ∀ (j : Nat) (r : Ru), j < s.rs.length → s.rs[j]? = some r → lpoA s.ar rk lex r.r r.l ≠ 0) : lpAll lex s rk = true := by
  simp only [lpAll, decide_eq_true_eq]; exact fun j r hr => h j r (List.getElem?_eq_some_iff.1 hr).1 hr
noncomputable def orientsV (lex : Bool) (s : Sy) (rk : List Int) : Bool := sysOk s && rankOk s.ar rk && lpAll lex s rk
theorem orientsV_sys {lex : Bool} {s : Sy} {rk : List Int} (h : sysOk s = false) : orientsV lex s rk = false := by unfold orientsV; rw [h]; rfl
theorem orientsV_rank {lex : Bool} {s : Sy} {rk : List Int} (h : sysOk s = true) (h2 : rankOk s.ar rk = false) : orientsV lex s rk = false := by unfold orientsV; rw [h, h2]; rfl
theorem orientsV_all {lex : Bool} {s : Sy} {rk : List Int} (h : sysOk s = true) (h2 : rankOk s.ar rk = true) : orientsV lex s rk = lpAll lex s rk := by unfold orientsV; rw [h, h2]; rfl
theorem lpoArgs_rule {s : Sy} {rk : List Int} {j : Nat} {r : Ru} (hs : SysP s) (hk : rankOk s.ar rk = true) (hr : s.rs[j]? = some r) : lpoArgs s.ar rk r.r r.l = true := by
  have h := hs.2.2 j r hr
  have h2 := rankOk_iff.1 hk
  exact lpoArgs_iff.2 ⟨⟨h.2.1, h.1⟩, hs.1, h2.2.1, hk⟩
end Go.Proofs.Ytdlgjhngndpgoaa
namespace Go.Proofs.Ytdlgjhngndpgoaa
open Go.RowKit
set_option linter.unusedSimpArgs false
set_option linter.unusedVariables false
section
variable {w0 w w' : World} {B : Nat} {A : Option Addr} {n c : Nat} {xss : List (List Int)}
end
theorem one_slice (A : Option Addr) (n c : Nat) : ∀ u ∈ [Value.slice A n c], u.oneCell' = true := by intro u hu; simp at hu; subst hu; rfl
set_option maxRecDepth 100000 in
set_option maxHeartbeats 2000000 in
theorem c_l13End {v0 v1 : Value} {ar t rest : List Int} {p : Nat} {u : Tm} {w : World} (h0 : RdSig w v0 ar) (h1 : RdI w v1 t) (hs : SigP ar) (hu : u.Ok ar) (hd : t.drop p = u.flat ++ rest) :
    Calls Try.prog 98 #[v0, v1, .int .i64 (p : Int)] w fun e w' => e = .returned (.int .i64 ((p + u.flat.length : Nat) : Int)) ∧ Ext w w' := by
  have hend := endI_flat hu hd
  have hpl := drop_lt hd (flat_pos u)
  obtain ⟨A, n, c, rfl, ha⟩ := h0
  obtain ⟨B, m, d, rfl, hb⟩ := h1
  have hm := hb.le
  have hml := hb.len
  have HN := Lib.hid ha.len
  have HA := Lib.hid ha
  have HB := Lib.hid hb
  have HS := Lib.hid hs
  have HE := Lib.hid hend
  have HM := Lib.hid hml
  have hpm : p ≤ m := by omega
  clear ha hb hs hend hml hd hu hpl
  go_enter Try.func98, Try.ntmps98
  go_wp2_with fail
  obtain ⟨wo, hwo⟩ : ∃ wo, wo = w.alloc (.cells #[.slice A n c] 29) := ⟨_, rfl⟩
  have hb0 : wo.cell? ⟨w.heap.size, 0, none⟩ = some (.slice A n c) := by rw [hwo]; simp [go_sem]
  have hEo : Ext w wo := by rw [hwo]; exact extX
  rw [← hwo]
  clear hwo
  go_loopw [2, 7] (fun i nn wr => ∃ q nd : Nat, i = .int .i64 q ∧ nn = .int .i64 nd ∧ nd ≤ 1 + 3 * q ∧ q ≤ m ∧ Hid (ScanAt (arI ar) t p q nd) ∧ Ext wo wr) (fun i _ _ => m + 1 - (intOf i).toNat)
  case atStart => exact ⟨p, 1, rfl, rfl, by omega, by omega, Lib.hid (ScanAt.start (by rw [HM.out]; exact hpm)), by exact extX⟩
  case round =>
    obtain ⟨q, nd, rfl, rfl, hnd, hqm, hsc, hE⟩ := hrel
    have hr0 : wr.cell? ⟨w.heap.size, 0, none⟩ = some (.slice A n c) := Ext.keep hE hb0
    rcases nd with _ | nd
    · go_wp2
      go_ret
      exact ⟨ret_int (hsc.out.done.symm.trans HE.out), by exact extX⟩
    · by_cases hq : q = m
      · exfalso
        have h1 := hsc.out.out (by rw [HM.out]; exact hq)
        have h2 : endF (arI ar) t p = _ := HE.out
        rw [h1] at h2; omega
      · have hq' : q < m := by omega
        obtain ⟨b, o, x, rfl, hx, hcx⟩ := RI.at_ (RI.ext HB.out (by exact extX : Ext w wr)) hq'
        rcases hf : arI ar x with _ | a
        · exfalso
          have h1 := hsc.out.bad hx hf
          have h2 : endF (arI ar) t p = _ := HE.out
          rw [h1] at h2; omega
        · have ha3 := arI_le HS.out hf
          have HSC := Lib.hid (hsc.out.step hx hf)
          have hxl := arI_lt hf
          rw [HN.out] at hxl
          have hqi : (q : Int) < (m : Int) := by omega
          by_cases hx0 : x < 0
          · have ha0 : a = 0 := by rw [arI_neg hx0] at hf; cases hf; rfl
            subst ha0
            clear hf hx
            go_wp2
            go_roundw
            case rel => exact ⟨q + 1, nd, by go_num, by go_num, by omega, by omega, HSC, by exact extX⟩
            case measure => simp only [intOf]; omega
          · obtain ⟨z0, rfl⟩ := Int.eq_ofNat_of_zero_le (show 0 ≤ x by omega)
            have hzn : z0 < n := by omega
            obtain ⟨b2, o2, s, rfl, hs2, hcs⟩ := RI.at_ (RI.ext HA.out (by exact extX : Ext w wr)) hzn
            have has : (s : Int) = (a : Int) := by
              rw [arI_at (by omega) (by rw [Int.toNat_natCast]; exact hs2)] at hf
              have := HS.out.2.2 s (List.mem_of_getElem? hs2)
              injection hf with hf; omega
            subst has
            clear hf hx hs2
            go_wp2_with fail
            go_quiet (fail)
            go_wp2
            go_roundw
            case rel => exact ⟨q + 1, nd + a, by go_num, by go_num, by omega, by omega, HSC, by exact extX⟩
            case measure => simp only [intOf]; omega
end Go.Proofs.Ytdlgjhngndpgoaa
namespace Go.Proofs.Ytdlgjhngndpgoaa
def oftP (s t : List Int) : Prop := ∀ x ∈ s, x < 0 → s.count x ≤ t.count x
instance (s t : List Int) : Decidable (oftP s t) := by unfold oftP; infer_instance
end Go.Proofs.Ytdlgjhngndpgoaa
namespace Go.Proofs.Ytdlgjhngndpgoaa
open Go.RowKit
set_option linter.unusedSimpArgs false
set_option linter.unusedVariables false
set_option maxHeartbeats 1000000 in
theorem c_subAt {v0 v1 : Value} {ar t rest : List Int} {p : Nat} {u : Tm} {w : World} (h0 : RdSig w v0 ar) (h1 : RdIc w v1 t) (hs : SigP ar) (hu : u.Ok ar) (hd : t.drop p = u.flat ++ rest) :
    Calls Try.prog 120 #[v0, v1, .int .i64 (p : Int)] w fun e w' => ∃ A n c, e = .returned (.slice A n c) ∧ (n ≤ c ∧ c ≤ 9223372036854775807) ∧ RI w' A n u.flat ∧ Ext w w' := by
  obtain ⟨A, n, c, rfl, ha⟩ := h0
  obtain ⟨B, m, d, rfl, ⟨hmd, hd0⟩, hb⟩ := h1
  have hm := hb.le
  have hml := hb.len
  have hpl := drop_lt hd (flat_pos u)
  have hul := flat_pos u
  obtain ⟨b, o, x, rfl, hx, hcx⟩ := RI.at_ hb (show 0 < m by omega)
  have HSUB := Lib.hid (RI.sub hb hd)
  have HA := Lib.hid ha
  have HB := Lib.hid hb
  have HS := Lib.hid hs
  have HU := Lib.hid hu
  have HD := Lib.hid hd
  have hpm : p + u.flat.length ≤ m := by omega
  clear ha hb hs hu hd hx
  go_enter Try.func120, Try.ntmps120
  go_wp2_with (go_at_call 109; (with_reducible refine (c_endAt_flat (u := u) (RdSig.mk (RI.ext HA.out (by exact extX))) (RdI.mk (RI.ext HB.out (by exact extX))) HS.out HU.out HD.out).mono ?_); rintro e w2 ⟨rfl, hE2⟩)
  go_ret
  exact ⟨_, _, _, rfl, ⟨by omega, by omega⟩, by rw [show p + u.flat.length - p = u.flat.length by omega]; exact RI.ext HSUB.out (by exact extX), by exact extX⟩
end Go.Proofs.Ytdlgjhngndpgoaa
namespace Go.Proofs.Ytdlgjhngndpgoaa
open Go.RowKit
theorem wpAnyH_take_dst {P : Program} {ops : Array Oper} {Q : Exit → Act → World → Prop} {md : Region.Mode} {S : World → Prop} {i : Nat} {oi : Oper} {v : Value} {d : Option Tmp} {fuel : Nat} {listed : Array Bool} {a : Act} {w : World} (hi : ops[i]? = some oi) (hd : oi.dst = d)
    (hs : Region.noSelect ops = true) (hf : Region.free md ops listed i = true) (hr : (Region.ready md ops listed).contains i = true)
    (hQ : ∀ c a w, Q (.panic c) (a.put d v) w → Q (.panic c) a w) (hy : YieldsIf P ops S oi v a) (hS : S w)
    (h : wpAnyH P md ops Q S fuel (listed.setIfInBounds i true) (a.put d v) w) : wpAnyH P md ops Q S (fuel + 1) listed a w := by
  subst hd; exact wpAnyH_take hi hs hf hr hQ hy hS h
def OnlyR (R : Act → World → Prop) : Exit → Act → World → Prop
  | .normal, a, w => R a w
  | _, _, _ => False
theorem wp_only {P : Program} {c : Code} {Q : Exit → Act → World → Prop} {R : Act → Act → World → Prop} {a : Act} {w : World} (h : c.wp P (OnlyR (R a)) a w) (hq : ∀ a' w', R a a' w' → Q .normal a' w') : c.wp P Q a w :=
  Code.wp_mono (fun e a' w' h => by cases e <;> first | exact hq a' w' h | exact h.elim) h
end Go.Proofs.Ytdlgjhngndpgoaa
namespace Go.Proofs.Ytdlgjhngndpgoaa
open Go.RowKit
set_option linter.unusedSimpArgs false
set_option linter.unusedVariables false
structure LC where
  ab : Nat
  ao : Nat
  n : Nat
  c : Nat
  rb : Nat
  ro : Nat
  rc : Nat
  tb : Nat
  tq : Nat
  m : Nat
  d : Nat
  sb : Nat
  so : Nat
  k : Nat
  l : Nat
  g : Nat
  ar : List Int
  rk : List Int
  t : List Int
  s : List Int
  lex : Bool
noncomputable def LC.W (X : LC) (i j : Nat) : Nat := lpoW (rkF X.rk) X.lex (subT X.ar X.t i) (subT X.ar X.s j)
def LC.by_ (X : LC) : Value := .iface (if X.lex = true then 59 else 60) (.agg #[])
structure LC.P (X : LC) : Prop where
  sig : SigP X.ar
  tt : TermP X.ar X.t
  ts : TermP X.ar X.s
  rl : X.rk.length = X.ar.length
  tc : X.m ≤ X.d ∧ X.d ≤ 9223372036854775807
  sc : X.k ≤ X.l ∧ X.l ≤ 9223372036854775807
structure LC.H (X : LC) (w : World) : Prop where
  a : RI w (some ⟨X.ab, X.ao, none⟩) X.n X.ar
  r : RI w (some ⟨X.rb, X.ro, none⟩) X.n X.rk
  t : RI w (some ⟨X.tb, X.tq, none⟩) X.m X.t
  s : RI w (some ⟨X.sb, X.so, none⟩) X.k X.s
  na : X.ab ≠ X.g
  nr : X.rb ≠ X.g
  nt : X.tb ≠ X.g
  ns : X.sb ≠ X.g
  c0 : w.cell? ⟨X.g, 0, none⟩ = some (.slice (some ⟨X.ab, X.ao, none⟩) X.n X.c)
  c1 : w.cell? ⟨X.g, 1, none⟩ = some (.slice (some ⟨X.rb, X.ro, none⟩) X.n X.rc)
  c2 : w.cell? ⟨X.g, 2, none⟩ = some X.by_
  c3 : w.cell? ⟨X.g, 3, none⟩ = some (.slice (some ⟨X.tb, X.tq, none⟩) X.m X.d)
  c4 : w.cell? ⟨X.g, 4, none⟩ = some (.slice (some ⟨X.sb, X.so, none⟩) X.k X.l)
  cw : ∀ i j, i < 60 → j < 60 → ∃ z : Nat, w.cell? ⟨X.g, 5 + i * 60 + j, none⟩ = some (.int .i8 z) ∧ (z = 0 ∨ z = 1 + X.W i j)
  fr : ∀ o, w.frozen? ⟨X.g, o, none⟩ = false
theorem LC.W_le (X : LC) (i j : Nat) : X.W i j ≤ 3 := lpoW_le _ _ _ _
theorem RI.onlyS {w w' : World} {g b o n : Nat} {xs : List Int} (h : RI w (some ⟨b, o, none⟩) n xs) (k : Only w w' g) (hg : b ≠ g) : RI w' (some ⟨b, o, none⟩) n xs :=
  h.only k fun b' o' s' e _ => by cases e; exact hg
theorem LC.H.lt {X : LC} {w : World} (h : X.H w) : X.g < w.heap.size := World.block_lt_of_cell? w _ h.c0
theorem LC.H.ext {X : LC} {w w' : World} (h : X.H w) (k : Ext w w') : X.H w' where
  a := h.a.ext k
  r := h.r.ext k
  t := h.t.ext k
  s := h.s.ext k
  na := h.na
  nr := h.nr
  nt := h.nt
  ns := h.ns
  c0 := Ext.keep k h.c0
  c1 := Ext.keep k h.c1
  c2 := Ext.keep k h.c2
  c3 := Ext.keep k h.c3
  c4 := Ext.keep k h.c4
  cw := fun i j hi hj => by obtain ⟨z, h1, h2⟩ := h.cw i j hi hj; exact ⟨z, Ext.keep k h1, h2⟩
  fr := fun o => (Below.frozen (p := ⟨X.g, o, none⟩) k h.lt).trans (h.fr o)
theorem LC.H.set {X : LC} {w : World} (h : X.H w) {i j : Nat} (hi : i < 60) (hj : j < 60) {v : Value} (hv : v = .int .i8 ((1 + X.W i j : Nat) : Int)) : X.H (w.setCell ⟨X.g, 5 + i * 60 + j, none⟩ v) := by
  subst hv
  have hO : Only w (w.setCell ⟨X.g, 5 + i * 60 + j, none⟩ (.int .i8 ((1 + X.W i j : Nat) : Int))) X.g := Only.setCell w X.g _ _
  refine ⟨h.a.onlyS hO h.na, h.r.onlyS hO h.nr, h.t.onlyS hO h.nt, h.s.onlyS hO h.ns, h.na, h.nr, h.nt, h.ns, ?_, ?_, ?_, ?_, ?_, fun i' j' hi' hj' => ?_, fun o => by rw [World.frozen?_setCell]; exact h.fr o⟩
  · rw [World.cell?_setCell_other _ _ _ _ (by first | (simp; done) | (simp; omega))]; exact h.c0
  · rw [World.cell?_setCell_other _ _ _ _ (by first | (simp; done) | (simp; omega))]; exact h.c1
  · rw [World.cell?_setCell_other _ _ _ _ (by first | (simp; done) | (simp; omega))]; exact h.c2
  · rw [World.cell?_setCell_other _ _ _ _ (by first | (simp; done) | (simp; omega))]; exact h.c3
  · rw [World.cell?_setCell_other _ _ _ _ (by first | (simp; done) | (simp; omega))]; exact h.c4
  · obtain ⟨z, h1, h2⟩ := h.cw i' j' hi' hj'
    by_cases e : i = i' ∧ j = j'
    · obtain ⟨rfl, rfl⟩ := e
      exact ⟨_, World.cell?_setCell_same _ _ _ h1, .inr rfl⟩
    · exact ⟨z, by rw [World.cell?_setCell_other _ _ _ _ (by first | (simp; done) | (simp; omega))]; exact h1, h2⟩
def LC.Tell (X : LC) (i j : Nat) (w : World) (v : Value) (e : Ending) (w' : World) : Prop := e = .returned v ∧ X.H w' ∧ Only w w' X.g
def LC.Gr (X : LC) (i j : Nat) : Prop := ∀ w, X.H w → Calls Try.prog 116 #[.pointer (some ⟨X.g, 0, none⟩), .int .i64 (i : Int), .int .i64 (j : Int)] w (X.Tell i j w (.bool (decide (0 < X.W i j))))
def LC.Below (X : LC) (N : Nat) : Prop := ∀ i j, i < X.t.length → j < X.s.length → (subT X.ar X.t i).sz + (subT X.ar X.s j).sz < N → X.Gr i j
noncomputable def LC.same (X : LC) (i j : Nat) : Bool := (subT X.ar X.t i).flat == (subT X.ar X.s j).flat
theorem lq18 : (∀ (l : List Value) (i : Nat) (a : Value), l.toArray.setIfInBounds i a = (l.set i a).toArray) ∧ (∀ (x y : Value) (l : List Value), (x :: l).set 0 y = y :: l) ∧ (∀ (x y : Value) (l : List Value) (n : Nat), (x :: l).set (n + 1) y = x :: l.set n y) := ⟨fun l i a => by simp, fun _ _ _ => rfl, fun _ _ _ _ => rfl⟩
theorem z0q18 {p : Prop} (h : p := by (intro w hSw; (try dsimp only at hSw); go_split_ands; go_simp; try with_reducible rfl)) : p := h
set_option maxRecDepth 100000 in
set_option maxHeartbeats 4000000 in
theorem c_same {X : LC} {i j : Nat} {w : World} (hP : X.P) (h : X.H w) (hi : i < X.t.length) (hj : j < X.s.length) :
    Calls Try.prog 115 #[.pointer (some ⟨X.g, 0, none⟩), .int .i64 (i : Int), .int .i64 (j : Int)] w fun e w' => e = .returned (.bool (X.same i j)) ∧ Ext w w' := by
  have HX := Lib.hid (show (X.same i j) = ((subT X.ar X.t i).flat == (subT X.ar X.s j).flat) from rfl)
  obtain ⟨ab, ao, n, c, rb, ro, rc, tb, tq, m, d, sb, so, k, l, g, ar, rk, t, s, lex⟩ := X
  obtain ⟨h1, rest1, h2⟩ := subT_ok hP.tt hi
  obtain ⟨h3, rest2, h4⟩ := subT_ok hP.ts hj
  have HU := Lib.hid h1
  have HUD := Lib.hid h2
  have HV := Lib.hid h3
  have HVD := Lib.hid h4
  have HS := Lib.hid hP.sig
  have HTC := Lib.hid hP.tc
  have HSC := Lib.hid hP.sc
  have HA := Lib.hid h.a
  have HT := Lib.hid h.t
  have HZ := Lib.hid h.s
  have c0 : w.cell? ⟨g, 0, none⟩ = some (.slice (some ⟨ab, ao, none⟩) n c) := h.c0
  have c3 : w.cell? ⟨g, 3, none⟩ = some (.slice (some ⟨tb, tq, none⟩) m d) := h.c3
  have c4 : w.cell? ⟨g, 4, none⟩ = some (.slice (some ⟨sb, so, none⟩) k l) := h.c4
  clear h1 h2 h3 h4 h hP hi hj
  dsimp only at *
  go_enter Try.func115, Try.ntmps115
  go_wp2_with fail
  refine wp_region_held_drew (S := (fun w' => Ext w w' ∧ w'.cell? ⟨g, 0, none⟩ = some (.slice (some ⟨ab, ao, none⟩) n c) ∧ w'.cell? ⟨g, 3, none⟩ = some (.slice (some ⟨tb, tq, none⟩) m d) ∧ w'.cell? ⟨g, 4, none⟩ = some (.slice (some ⟨sb, so, none⟩) k l))) (by kernel_rfl) ?_ (fun hH => ?_)
  · exact ⟨(Ext.refl w).drew, c0, c3, c4⟩
  refine wpAnyH_take_dst (i := 0) (v := .pointer (some ⟨g, 0, none⟩)) (d := some 7) rfl rfl (by kernel_rfl) (by kernel_rfl) (by kernel_rfl) (fun _ _ _ h => h) (Or.inl ⟨by rfl, ?_⟩) hH ?_
  · exact z0q18
  try simp only [Act.put, lq18]
  refine wpAnyH_take_dst (i := 1) (v := .pointer (some ⟨g, 0, none⟩)) (d := some 8) rfl rfl (by kernel_rfl) (by kernel_rfl) (by kernel_rfl) (fun _ _ _ h => h) (Or.inl ⟨by rfl, ?_⟩) hH ?_
  · exact z0q18
  try simp only [Act.put, lq18]
  refine wpAnyH_take_dst (i := 2) (v := .pointer (some ⟨g, 0, none⟩)) (d := some 9) rfl rfl (by kernel_rfl) (by kernel_rfl) (by kernel_rfl) (fun _ _ _ h => h) (Or.inl ⟨by rfl, ?_⟩) hH ?_
  · exact z0q18
  try simp only [Act.put, lq18]
  refine wpAnyH_take_dst (i := 3) (v := .agg #[.slice (some ⟨ab, ao, none⟩) n c]) (d := some 10) rfl rfl (by kernel_rfl) (by kernel_rfl) (by kernel_rfl) (fun _ _ _ h => h) (Or.inl ⟨by rfl, ?_⟩) hH ?_
  · exact z0q18
  try simp only [Act.put, lq18]
  refine wpAnyH_take_dst (i := 4) (v := .pointer (some ⟨g, 0, none⟩)) (d := some 11) rfl rfl (by kernel_rfl) (by kernel_rfl) (by kernel_rfl) (fun _ _ _ h => h) (Or.inl ⟨by rfl, ?_⟩) hH ?_
  · exact z0q18
  try simp only [Act.put, lq18]
  refine wpAnyH_take_dst (i := 5) (v := .pointer (some ⟨g, 0, none⟩)) (d := some 12) rfl rfl (by kernel_rfl) (by kernel_rfl) (by kernel_rfl) (fun _ _ _ h => h) (Or.inl ⟨by rfl, ?_⟩) hH ?_
  · exact z0q18
  try simp only [Act.put, lq18]
  refine wpAnyH_take_dst (i := 6) (v := .pointer (some ⟨g, 3, none⟩)) (d := some 13) rfl rfl (by kernel_rfl) (by kernel_rfl) (by kernel_rfl) (fun _ _ _ h => h) (Or.inl ⟨by rfl, ?_⟩) hH ?_
  · exact z0q18
  try simp only [Act.put, lq18]
  refine wpAnyH_take_dst (i := 7) (v := .slice (some ⟨tb, tq, none⟩) m d) (d := some 14) rfl rfl (by kernel_rfl) (by kernel_rfl) (by kernel_rfl) (fun _ _ _ h => h) (Or.inl ⟨by rfl, ?_⟩) hH ?_
  · exact z0q18
  try simp only [Act.put, lq18]
  refine wpAnyH_take_dst (i := 8) (v := .int .i64 (i : Int)) (d := some 15) rfl rfl (by kernel_rfl) (by kernel_rfl) (by kernel_rfl) (fun _ _ _ h => h) (Or.inl ⟨by rfl, ?_⟩) hH ?_
  · exact z0q18
  try simp only [Act.put, lq18]
  refine wpAnyH_take_dst (i := 10) (v := .pointer (some ⟨g, 0, none⟩)) (d := some 17) rfl rfl (by kernel_rfl) (by kernel_rfl) (by kernel_rfl) (fun _ _ _ h => h) (Or.inl ⟨by rfl, ?_⟩) hH ?_
  · exact z0q18
  try simp only [Act.put, lq18]
  refine wpAnyH_take_dst (i := 11) (v := .pointer (some ⟨g, 0, none⟩)) (d := some 18) rfl rfl (by kernel_rfl) (by kernel_rfl) (by kernel_rfl) (fun _ _ _ h => h) (Or.inl ⟨by rfl, ?_⟩) hH ?_
  · exact z0q18
  try simp only [Act.put, lq18]
  refine wpAnyH_take_dst (i := 12) (v := .pointer (some ⟨g, 0, none⟩)) (d := some 19) rfl rfl (by kernel_rfl) (by kernel_rfl) (by kernel_rfl) (fun _ _ _ h => h) (Or.inl ⟨by rfl, ?_⟩) hH ?_
  · exact z0q18
  try simp only [Act.put, lq18]
  refine wpAnyH_take_dst (i := 13) (v := .agg #[.slice (some ⟨ab, ao, none⟩) n c]) (d := some 20) rfl rfl (by kernel_rfl) (by kernel_rfl) (by kernel_rfl) (fun _ _ _ h => h) (Or.inl ⟨by rfl, ?_⟩) hH ?_
  · exact z0q18
  try simp only [Act.put, lq18]
  refine wpAnyH_take_dst (i := 14) (v := .pointer (some ⟨g, 0, none⟩)) (d := some 21) rfl rfl (by kernel_rfl) (by kernel_rfl) (by kernel_rfl) (fun _ _ _ h => h) (Or.inl ⟨by rfl, ?_⟩) hH ?_
  · exact z0q18
  try simp only [Act.put, lq18]
  refine wpAnyH_take_dst (i := 15) (v := .pointer (some ⟨g, 0, none⟩)) (d := some 22) rfl rfl (by kernel_rfl) (by kernel_rfl) (by kernel_rfl) (fun _ _ _ h => h) (Or.inl ⟨by rfl, ?_⟩) hH ?_
  · exact z0q18
  try simp only [Act.put, lq18]
  refine wpAnyH_take_dst (i := 16) (v := .pointer (some ⟨g, 4, none⟩)) (d := some 23) rfl rfl (by kernel_rfl) (by kernel_rfl) (by kernel_rfl) (fun _ _ _ h => h) (Or.inl ⟨by rfl, ?_⟩) hH ?_
  · exact z0q18
  try simp only [Act.put, lq18]
  refine wpAnyH_take_dst (i := 17) (v := .slice (some ⟨sb, so, none⟩) k l) (d := some 24) rfl rfl (by kernel_rfl) (by kernel_rfl) (by kernel_rfl) (fun _ _ _ h => h) (Or.inl ⟨by rfl, ?_⟩) hH ?_
  · exact z0q18
  try simp only [Act.put, lq18]
  refine wpAnyH_take_dst (i := 18) (v := .int .i64 (j : Int)) (d := some 25) rfl rfl (by kernel_rfl) (by kernel_rfl) (by kernel_rfl) (fun _ _ _ h => h) (Or.inl ⟨by rfl, ?_⟩) hH ?_
  · exact z0q18
  try simp only [Act.put, lq18]
  refine wpAnyH_ready (rs := [9]) (by kernel_rfl) (by simp) ?_
  refine AllReadyH.cons rfl (fun K hK => ?_) AllReadyH.nil
  rw [if_pos (by rfl)]
  go_wp2_with (go_at_call 120; (with_reducible refine ((c_subAt (u := subT ar t i) (RdSig.mk (RI.ext HA.out hH.1)) (RdIc.mk HTC.out (RI.ext HT.out hH.1)) HS.out HU.out HUD.out)).mono ?_); rintro e w4 ⟨A3, n3, c3', rfl, hcap3, hr4, hE9⟩)
  refine hK.out _ _ ⟨Ext.trans hH.1 hE9, Ext.keep hE9 hH.2.1, Ext.keep hE9 hH.2.2.1, Ext.keep hE9 hH.2.2.2⟩ (fun hH9 => ?_)
  clear hK hH; have hH := hH9; clear hH9
  try simp only [Act.put, lq18]
  refine wpAnyH_ready (rs := [19]) (by kernel_rfl) (by simp) ?_
  refine AllReadyH.cons rfl (fun K hK => ?_) AllReadyH.nil
  rw [if_pos (by rfl)]
  go_wp2_with (go_at_call 120; (with_reducible refine ((c_subAt (u := subT ar s j) (RdSig.mk (RI.ext HA.out hH.1)) (RdIc.mk HSC.out (RI.ext HZ.out hH.1)) HS.out HV.out HVD.out)).mono ?_); rintro e w5 ⟨A4, n4, c4', rfl, hcap4, hr5, hE9⟩)
  refine hK.out _ _ ⟨Ext.trans hH.1 hE9, Ext.keep hE9 hH.2.1, Ext.keep hE9 hH.2.2.1, Ext.keep hE9 hH.2.2.2⟩ (fun hH9 => ?_)
  clear hK hH; have hH := hH9; clear hH9
  try simp only [Act.put, lq18]
  refine wpAnyH_ready (rs := [20]) (by kernel_rfl) (by simp) ?_
  refine AllReadyH.cons rfl (fun K hK => ?_) AllReadyH.nil
  rw [if_pos (by rfl)]
  go_wp2_with (go_at_call 35; (with_reducible refine ((c_slicesEqual (xs := (subT ar t i).flat) (ys := (subT ar s j).flat) (RdI.mk (RI.ext hr4 hE9)) (RdI.mk hr5))).mono ?_); rintro e w6 ⟨rfl, hE9⟩)
  refine hK.out _ _ ⟨Ext.trans hH.1 hE9, Ext.keep hE9 hH.2.1, Ext.keep hE9 hH.2.2.1, Ext.keep hE9 hH.2.2.2⟩ (fun hH9 => ?_)
  clear hK hH; have hH := hH9; clear hH9
  try simp only [Act.put, lq18]
  refine wpAnyH_take_dst (i := 21) (v := .bool ((subT ar t i).flat == (subT ar s j).flat)) (d := some 6) rfl rfl (by kernel_rfl) (by kernel_rfl) (by kernel_rfl) (fun _ _ _ h => h) (Or.inl ⟨by rfl, ?_⟩) hH ?_
  · exact z0q18
  try simp only [Act.put, lq18]
  refine wpAnyH_done (by kernel_rfl) ?_ _
  obtain ⟨hE, _, _, _⟩ := hH
  go_wp2
  go_ret
  exact ⟨ret_bool HX.out.symm, hE⟩
theorem c_same' {X : LC} {i j : Nat} {w : World} {b : Bool} (hb : X.same i j = b) (hP : X.P) (h : X.H w) (hi : i < X.t.length) (hj : j < X.s.length) :
    Calls Try.prog 115 #[.pointer (some ⟨X.g, 0, none⟩), .int .i64 (i : Int), .int .i64 (j : Int)] w fun e w' => e = .returned (.bool b) ∧ Ext w w' := by
  subst hb; exact c_same hP h hi hj
end Go.Proofs.Ytdlgjhngndpgoaa
namespace Go.Proofs.Ytdlgjhngndpgoaa
open Go.RowKit
set_option linter.unusedSimpArgs false
set_option linter.unusedVariables false
def LC.Fd (X : LC) (i j : Nat) : Prop := ∀ w, X.H w → Calls Try.prog 111 #[.pointer (some ⟨X.g, 0, none⟩), .int .i64 (i : Int), .int .i64 (j : Int)] w (X.Tell i j w (.int .i8 (X.W i j : Int)))
theorem LC.Fd.out {X : LC} {i j V : Nat} {w : World} (h : X.Fd i j) (hV : V = X.W i j) (hw : X.H w) :
    Calls Try.prog 111 #[.pointer (some ⟨X.g, 0, none⟩), .int .i64 (i : Int), .int .i64 (j : Int)] w (X.Tell i j w (.int .i8 (V : Int))) := by
  subst hV; exact h w hw
theorem z1q18 {p : Prop} (h : p := by (intro w' hE'; (try dsimp only at hE'); skip; go_simp; try with_reducible rfl)) : p := h
set_option maxRecDepth 100000 in
set_option maxHeartbeats 4000000 in
theorem c_reason {X : LC} {i j : Nat} {w : World} (hP : X.P) (hF : X.Fd i j) (h : X.H w) (hi : i < X.t.length) (hj : j < X.s.length) :
    Calls Try.prog 96 #[.pointer (some ⟨X.g, 0, none⟩), .int .i64 (i : Int), .int .i64 (j : Int)] w (X.Tell i j w (.int .i8 (X.W i j : Int))) := by
  have hi6 : i < 60 := by have := hP.tt.2.1.2; omega
  have hj6 : j < 60 := by have := hP.ts.2.1.2; omega
  obtain ⟨V, hV⟩ : ∃ V, V = X.W i j := ⟨_, rfl⟩
  have hV3 : V ≤ 3 := by rw [hV]; exact X.W_le i j
  have hii : (i : Int) < 60 := by omega
  have hjj : (j : Int) < 60 := by omega
  have hi0 : (0 : Int) ≤ (i : Int) := by omega
  have hj0 : (0 : Int) ≤ (j : Int) := by omega
  obtain ⟨z, hz, hz2⟩ := h.cw i j hi6 hj6
  rw [← hV] at hz2 ⊢
  have HF := Lib.hid hF
  have HH := Lib.hid h
  have HV := Lib.hid hV
  have hfr := h.fr
  clear hF h hV hi hj
  rcases hz2 with rfl | rfl
  · go_enter Try.func96, Try.ntmps96
    go_wp2_with fail
    have hw1 : IntKind.i8.wrap (1 + (V : Int)) = 1 + (V : Int) := IntWalk.i8_in _ (by omega)
    refine wp_only (R := fun (a0 : Act) (a8 : Act) (w9 : World) => a8 = ((((((((((((a0.put (some 16) (.pointer (some ⟨X.g, 0, none⟩))).put (some 17) (.int .i64 (i : Int))).put (some 18) (.int .i64 (j : Int))).put (some 19) (.pointer (some ⟨X.g, 0, none⟩))).put (some 20) (.int .i64 (i : Int))).put (some 21) (.int .i64 (j : Int))).put (some 22) (.int .i8 (V : Int))).put (some 23) (.int .i8 (1 + (V : Int)))).put (some 24) (.pointer (some ⟨X.g, 0, none⟩))).put (some 25) (.pointer (some ⟨X.g, 5, none⟩))).put (some 26) (.pointer (some ⟨X.g, 5 + i * 60, none⟩))).put (some 27) (.pointer (some ⟨X.g, 5 + i * 60 + j, none⟩))) ∧ X.H w9 ∧ Only w w9 X.g ∧ w9.cell? ⟨X.g, 5 + i * 60 + j, none⟩ = some (.int .i8 (1 + (V : Int)))) ?_ (fun a8 w2 hR => ?_)
    · refine wp_region_held_drew (S := (fun w' => X.H w' ∧ Only w w' X.g)) (by kernel_rfl) (⟨HH.out.ext (Ext.refl w).drew, Only.of_ext (Ext.refl w).drew _⟩) (fun hH => ?_)
      refine wpAnyH_take_dst (i := 0) (v := .pointer (some ⟨X.g, 0, none⟩)) (d := some 16) rfl rfl (by kernel_rfl) (by kernel_rfl) (by kernel_rfl) (fun _ _ _ h => h) (Or.inl ⟨by rfl, ?_⟩) hH ?_
      · exact z1q18
      try simp only [Act.put, lq18]
      refine wpAnyH_take_dst (i := 1) (v := .int .i64 (i : Int)) (d := some 17) rfl rfl (by kernel_rfl) (by kernel_rfl) (by kernel_rfl) (fun _ _ _ h => h) (Or.inl ⟨by rfl, ?_⟩) hH ?_
      · exact z1q18
      try simp only [Act.put, lq18]
      refine wpAnyH_take_dst (i := 2) (v := .int .i64 (j : Int)) (d := some 18) rfl rfl (by kernel_rfl) (by kernel_rfl) (by kernel_rfl) (fun _ _ _ h => h) (Or.inl ⟨by rfl, ?_⟩) hH ?_
      · exact z1q18
      try simp only [Act.put, lq18]
      refine wpAnyH_take_dst (i := 3) (v := .pointer (some ⟨X.g, 0, none⟩)) (d := some 19) rfl rfl (by kernel_rfl) (by kernel_rfl) (by kernel_rfl) (fun _ _ _ h => h) (Or.inl ⟨by rfl, ?_⟩) hH ?_
      · exact z1q18
      try simp only [Act.put, lq18]
      refine wpAnyH_take_dst (i := 4) (v := .int .i64 (i : Int)) (d := some 20) rfl rfl (by kernel_rfl) (by kernel_rfl) (by kernel_rfl) (fun _ _ _ h => h) (Or.inl ⟨by rfl, ?_⟩) hH ?_
      · exact z1q18
      try simp only [Act.put, lq18]
      refine wpAnyH_take_dst (i := 5) (v := .int .i64 (j : Int)) (d := some 21) rfl rfl (by kernel_rfl) (by kernel_rfl) (by kernel_rfl) (fun _ _ _ h => h) (Or.inl ⟨by rfl, ?_⟩) hH ?_
      · exact z1q18
      try simp only [Act.put, lq18]
      refine wpAnyH_take_dst (i := 8) (v := .pointer (some ⟨X.g, 0, none⟩)) (d := some 24) rfl rfl (by kernel_rfl) (by kernel_rfl) (by kernel_rfl) (fun _ _ _ h => h) (Or.inl ⟨by rfl, ?_⟩) hH ?_
      · exact z1q18
      try simp only [Act.put, lq18]
      refine wpAnyH_take_dst (i := 9) (v := .pointer (some ⟨X.g, 5, none⟩)) (d := some 25) rfl rfl (by kernel_rfl) (by kernel_rfl) (by kernel_rfl) (fun _ _ _ h => h) (Or.inl ⟨by rfl, ?_⟩) hH ?_
      · exact z1q18
      try simp only [Act.put, lq18]
      refine wpAnyH_take_dst (i := 10) (v := .pointer (some ⟨X.g, 5 + i * 60, none⟩)) (d := some 26) rfl rfl (by kernel_rfl) (by kernel_rfl) (by kernel_rfl) (fun _ _ _ h => h) (Or.inl ⟨by rfl, ?_⟩) hH ?_
      · exact z1q18
      try simp only [Act.put, lq18]
      refine wpAnyH_ready (rs := [6]) (by kernel_rfl) (by simp) ?_
      refine AllReadyH.cons rfl (fun K hK => ?_) AllReadyH.nil
      rw [if_pos (by rfl)]
      go_wp2_with fail
      (with_reducible refine (HF.out.out HV.out hH.1).mono ?_)
      rintro e w9 ⟨rfl, hH9, hO9⟩
      refine hK.out _ _ (⟨hH9, hH.2.trans hO9⟩) (fun hH9 => ?_)
      clear hK; have hH0 := hH; clear hH; have hH := hH9; clear hH9
      try simp only [Act.put, lq18]
      refine wpAnyH_take_dst (i := 7) (v := .int .i8 (1 + (V : Int))) (d := some 23) rfl rfl (by kernel_rfl) (by kernel_rfl) (by kernel_rfl) (fun _ _ _ h => h) (Or.inl ⟨by rfl, ?_⟩) hH ?_
      · exact z1q18
      try simp only [Act.put, lq18]
      refine wpAnyH_take_dst (i := 11) (v := .pointer (some ⟨X.g, 5 + i * 60 + j, none⟩)) (d := some 27) rfl rfl (by kernel_rfl) (by kernel_rfl) (by kernel_rfl) (fun _ _ _ h => h) (Or.inl ⟨by rfl, ?_⟩) hH ?_
      · exact z1q18
      try simp only [Act.put, lq18]
      refine wpAnyH_ready (rs := [12]) (by kernel_rfl) (by simp) ?_
      refine AllReadyH.cons rfl (fun K hK => ?_) AllReadyH.nil
      rw [if_pos (by rfl)]
      obtain ⟨z9, hz9, _⟩ := hH.1.cw i j hi6 hj6; have hf9 := hH.1.fr; go_wp2_with fail
      refine hK.out _ _ (⟨hH.1.set hi6 hj6 (by rw [← HV.out]; first | rfl | simp), hH.2.trans (Only.setCell _ _ _ _)⟩) (fun hH9 => ?_)
      clear hK; have hH0 := hH; clear hH; have hH := hH9; clear hH9
      try simp only [Act.put, lq18]
      refine wpAnyH_done (by kernel_rfl) ?_ _
      exact ⟨rfl, hH.1, hH.2, World.cell?_setCell_same _ _ _ (hH0.1.cw i j hi6 hj6).choose_spec.1⟩
    obtain ⟨ha, ⟨hH2, hO2, hc2⟩⟩ := hR
    simp only [Act.put, lq18] at ha
    subst ha
    have HH2 := Lib.hid hH2
    clear hH2
    have hw3 : IntKind.i8.wrap (1 + (V : Int) - 1) = (V : Int) := by rw [show 1 + (V : Int) - 1 = (V : Int) by omega]; exact IntWalk.i8_in _ (by omega)
    go_wp2
    go_ret
    exact ⟨rfl, HH2.out, hO2⟩
  · have hne : ((1 + V : Nat) : Int) ≠ 0 := by omega
    have hb : (((1 + V : Nat) : Int) == 0) = false := by simpa using hne
    go_enter Try.func96, Try.ntmps96
    go_wp2
    go_ret
    exact ⟨ret_int (by first | (simp; done) | (rw [IntWalk.i8_in _ (by omega)]; omega) | omega), HH.out, Only.refl _ _⟩
end Go.Proofs.Ytdlgjhngndpgoaa
