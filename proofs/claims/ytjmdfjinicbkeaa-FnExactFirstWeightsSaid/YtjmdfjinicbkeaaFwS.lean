/- First weights: the reference's. -/
import Derived.Test.YtjmdfjinicbkeaaKboOr
import Derived.Test.YtjmdfjinicbkeaaCnt
import Derived.Test.YtjmdfjinicbkeaaNextS
import Derived.Test.YtjmdfjinicbkeaaMRk
import Derived.Test.YtjmdfjinicbkeaaTries
-- rd: RdWt RdSyK
namespace Go.Proofs.Ytjmdfjinicbkeaa
open Go.RowKit
set_option linter.unusedSimpArgs false
set_option linter.unusedVariables false

/-! A box of three. -/
structure B3 (w : World) (q : Nat) (u v x : Value) : Prop where
  c0 : w.cell? ⟨q, 0, none⟩ = some u
  c1 : w.cell? ⟨q, 1, none⟩ = some v
  c2 : w.cell? ⟨q, 2, none⟩ = some x
  fr : ∀ j, w.frozen? ⟨q, j, none⟩ = false
section
variable {w w' : World} {q : Nat} {u v x : Value}
theorem B3.lt (h : B3 w q u v x) : q < w.heap.size := World.block_lt_of_cell? w _ h.c0
theorem B3.ext (h : B3 w q u v x) (k : Ext w w') : B3 w' q u v x := ⟨Ext.keep k h.c0, Ext.keep k h.c1, Ext.keep k h.c2, fun j => (Below.frozen (p := ⟨q, j, none⟩) k h.lt).trans (h.fr j)⟩
theorem B3.new (W : World) (u v x : Value) : ∀ q, q = W.heap.size → B3 (W.alloc (.cells #[u, v, x] 48)) q u v x := fun q e => by
  subst e; exact ⟨by simp [go_sem], by simp [go_sem], by simp [go_sem], by intro j; simp [go_sem]⟩
theorem B3.far (h : B3 w q u v x) {p : Addr} (y : Value) (hp : q ≠ p.block) : B3 (w.setCell p y) q u v x := by
  refine ⟨?_, ?_, ?_, fun j => by rw [World.frozen?_setCell]; exact h.fr j⟩
  · rw [World.cell?_setCell_other _ _ _ _ (fun e => hp (by have := congrArg Addr.block e; first | exact this | exact this.symm))]; exact h.c0
  · rw [World.cell?_setCell_other _ _ _ _ (fun e => hp (by have := congrArg Addr.block e; first | exact this | exact this.symm))]; exact h.c1
  · rw [World.cell?_setCell_other _ _ _ _ (fun e => hp (by have := congrArg Addr.block e; first | exact this | exact this.symm))]; exact h.c2
theorem B3.put2 (h : B3 w q u v x) (y : Value) : B3 (w.setCell ⟨q, 2, none⟩ y) q u v y := by
  refine ⟨?_, ?_, World.cell?_setCell_same _ _ _ h.c2, fun j => by rw [World.frozen?_setCell]; exact h.fr j⟩
  · rw [World.cell?_setCell_other _ _ _ _ (by simp)]; exact h.c0
  · rw [World.cell?_setCell_other _ _ _ _ (by simp)]; exact h.c1
end
theorem RI.setW {w : World} {A : Option Addr} {n : Nat} {xs : List Int} (h : RI w A n xs) {p : Addr} (v : Value) (hp : n = 0 ∨ ∀ b o s, A = some ⟨b, o, s⟩ → b ≠ p.block) : RI (w.setCell p v) A n xs := by
  refine ⟨h.1, fun hn => ?_⟩
  obtain ⟨b, o, e, hc⟩ := h.2 hn
  have hb : b ≠ p.block := (hp.resolve_left (by omega)) b o none e
  refine ⟨b, o, e, fun j x hx => ?_⟩
  rw [World.cell?_setCell_other _ _ _ _ (fun e2 => hb (by have := congrArg Addr.block e2; first | exact this | exact this.symm))]
  exact hc j x hx
theorem upI_snoc (n : Nat) : ∀ a : Int, upI a (n + 1) = upI a n ++ [a + n] := by
  induction n with
  | zero => intro a; simp [upI]
  | succ n ih =>
    intro a
    show a :: upI (a + 1) (n + 1) = (a :: upI (a + 1) n) ++ [a + ((n + 1 : Nat) : Int)]
    rw [ih, List.cons_append]
    congr 3
    omega
set_option maxRecDepth 100000 in
set_option maxHeartbeats 2000000 in
theorem c_l16First {n : Nat} {w : World} (hn : n ≤ 1000) : Calls Try.prog 39 #[.int .i64 (n : Int)] w (NewI w (upI 0 n)) := by
  obtain ⟨i0, hii, hiz, his, hib⟩ := info_parts int64_info
  go_enter Try.func39, Try.ntmps39
  have HO0 := Lib.hid (OwI.none0 (w := w) (D := w.heap.size) (Nat.le_refl _))
  go_wp2_with fail
  go_loopw [3, 4] (fun ov iv wr => ∃ k : Nat, iv = .int .i64 k ∧ k ≤ n ∧ (∃ A c, ov = .slice A k c ∧ Hid (OwI wr w.heap.size A k c (upI 0 k))) ∧ Hid (Ext w wr)) (fun _ iv _ => n - (intOf iv).toNat)
  case atStart => exact ⟨0, rfl, Nat.zero_le _, ⟨_, 0, rfl, HO0⟩, Lib.hid ((Ext.refl w).alloc _)⟩
  case round =>
    obtain ⟨k, rfl, hk, ⟨A, c, rfl, hO⟩, hE⟩ := hrel
    by_cases hlt : k < n
    · have hki : (k : Int) < (n : Int) := by omega
      have hsr := hE.out.size
      have HF := Lib.hid (OwI.freshP (w := wr) (k : Int)).ri
      have hcp := hO.out.cap
      have hob := hO.out.ob2
      go_wp2_with (at_builtin; go_loud (refine wpList_append_ints rfl (.tmp 11) (.tmp 13) 22 rfl i0 Try.underlying22 hii hiz his hib (D := w.heap.size) rfl (OwI.alloc hO.out _) rfl (show RI (wr.alloc (.cells #[.int .i64 (k : Int)] 2)) (some ⟨wr.heap.size, 0, none⟩) 1 [(k : Int)] from HF.out) (by omega) (by simp only [World.size_alloc]; omega) hcp.1 ?_))
      intro A3 c3 w3 hO3 hg3 hat3
      have hE3 : Ext w w3 := Ext.grown (hE.out.alloc _) hg3 (fun b hb => (hob b hb).1)
      have HO3 := Lib.hid (show OwI w3 w.heap.size A3 (k + 1) c3 (upI 0 (k + 1)) from by
        rw [upI_snoc, Int.zero_add]; exact hO3)
      clear hO3 hg3 hat3 hob HF hcp
      go_wp2
      go_roundw
      case rel => exact ⟨k + 1, by go_num, by omega, ⟨_, _, rfl, HO3⟩, Lib.hid hE3⟩
      case measure => simp only [intOf]; omega
    · obtain rfl : k = n := by omega
      go_wp2
      go_ret
      exact ⟨A, k, c, rfl, hO.out, hE.out⟩
/-- The first rank by which a system's rules fall, these weights given. -/
def TR (s : Sy) (sym rk : List Int) : Prop := kboOrients s ⟨1, sym, rk⟩ = true
noncomputable def rkO (s : Sy) (sym : List Int) (n : Nat) : Option (List Int) := gsR (TR s sym) (muR (upI 0 n) + 1) (upI 0 n)
def TW (s : Sy) (n : Nat) (sym : List Int) : Prop := (rkO s sym n).isSome = true
/-- Ranks that are still to be looked at. -/
noncomputable def rkMeas (T : List Int → Prop) (o : Option (List Int)) (q : Nat) (mv : Value) (w : World) : Nat := match mv with
  | .bool true => leastOf (fun k => ∃ A n c rk, w.cell? ⟨q, 2, none⟩ = some (.slice A n c) ∧ RI w A n rk ∧ OnG T o k rk) + 1
  | _ => 0
theorem rkMeas_t {T : List Int → Prop} {o : Option (List Int)} {q : Nat} {w : World} : rkMeas T o q (.bool true) w = leastOf (fun k => ∃ A n c rk, w.cell? ⟨q, 2, none⟩ = some (.slice A n c) ∧ RI w A n rk ∧ OnG T o k rk) + 1 := rfl
theorem rkMeas_f {T : List Int → Prop} {o : Option (List Int)} {q : Nat} {w : World} : rkMeas T o q (.bool false) w = 0 := rfl
/-- What comes of it. -/
def RkOut (B : Nat) (w' : World) (SA : Option Addr) (sn sc : Nat) (o : Option (List Int)) (e : Ending) : Prop := match o with
  | none => e = .returned (.tuple #[.agg #[.int .i64 0, .slice none 0 0, .slice none 0 0], .bool false])
  | some rk => ∃ RA rn rc, e = .returned (.tuple #[.agg #[.int .i64 1, .slice SA sn sc, .slice RA rn rc], .bool true]) ∧ RI w' RA rn rk ∧ (rn = 0 ∨ ∀ b o s, RA = some ⟨b, o, s⟩ → B ≤ b)
theorem c_sKboOrP {v0 v1 : Value} {s : Sy} {W : Wt} {b : Bool} {w : World} (hb : kboOrients s W = b) (h0 : RdSyC w v0 s) (h1 : RdWt w v1 W) :
    Calls Try.prog 98 #[v0, v1] w fun e w' => e = .returned (.bool b) ∧ Ext w w' := by subst hb; exact c_sKboOrients h0 h1
set_option maxRecDepth 100000 in
set_option maxHeartbeats 8000000 in
theorem c_l16Ranked {v0 : Value} {s : Sy} {SA : Option Addr} {sn sc : Nat} {sym : List Int} {o : Option (List Int)} {w : World} (ho : rkO s sym sn = o) (h0 : RdSyC w v0 s) (h1 : RI w SA sn sym) (hn8 : sn ≤ 8) :
    Calls Try.prog 64 #[v0, .slice SA sn sc] w fun e w' => RkOut w.heap.size w' SA sn sc o e ∧ Ext w w' := by
  obtain ⟨A0, n0, c0, B0, m0, d0, rfl, ha, hb⟩ := h0
  have HA := Lib.hid ha
  have HB := Lib.hid hb
  have HS := Lib.hid h1
  have HW0 := Lib.hid (show OnG (TR s sym) o (muR (upI 0 sn) + 1) (upI 0 sn) from OnG.start (upI_ok hn8) ho)
  clear ha hb h1 ho
  go_enter Try.func64, Try.ntmps64
  go_wp2_with fail
  obtain ⟨wb, hwb⟩ : ∃ wb, wb = (w.alloc (.cells #[.slice A0 n0 c0, .slice B0 m0 d0] 34)).alloc (.cells #[.int .i64 0, .slice none 0 0, .slice none 0 0] 48) := ⟨_, rfl⟩
  have hb0 : wb.cell? ⟨w.heap.size, 0, none⟩ = some (.slice A0 n0 c0) := by rw [hwb]; simp [go_sem]
  have hb1 : wb.cell? ⟨w.heap.size, 1, none⟩ = some (.slice B0 m0 d0) := by rw [hwb]; simp [go_sem]
  have HZ := Lib.hid (show B3 wb (w.heap.size + 1) (.int .i64 0) (.slice none 0 0) (.slice none 0 0) by rw [hwb]; exact B3.new _ _ _ _ _ (by simp [go_sem]))
  have HEwb := Lib.hid (show Ext w wb by rw [hwb]; exact extX)
  have hbs : wb.heap.size = w.heap.size + 2 := by rw [hwb]; simp [go_sem]
  have HBS := Lib.hid hbs
  rw [← hwb]
  clear hwb hbs
  (with_reducible refine (c_l16First (n := sn) (by omega)).mono ?_)
  rintro e w2 ⟨RA, rn, rc, rfl, hR2, hE2⟩
  have hcp2 := hR2.cap
  have hbd2 := hR2.bd
  have HR2 := Lib.hid hR2.ri
  have hs2 := hE2.size
  obtain ⟨w3, hw3⟩ : ∃ w3, w3 = w2.alloc (.cells #[.int .i64 1, .slice SA sn sc, .slice RA rn rc] 48) := ⟨_, rfl⟩
  have hE23 : Ext w2 w3 := by rw [hw3]; exact extX
  have HQ3 := Lib.hid (show B3 w3 w2.heap.size (.int .i64 1) (.slice SA sn sc) (.slice RA rn rc) by rw [hw3]; exact B3.new _ _ _ _ _ rfl)
  have HE2 := Lib.hid hE2
  have HR3 := Lib.hid (RI.ext HR2.out hE23)
  have HF3 := Lib.hid (show rn = 0 ∨ ∀ b o s, RA = some ⟨b, o, s⟩ → wb.heap.size ≤ b ∧ b ≠ w2.heap.size from .inr fun b o s e => by have := hbd2 b o s e; omega)
  have HE23 := Lib.hid hE23
  clear hR2 hbd2 hE2 hE23
  go_wp2_with fail
  rw [← hw3]
  clear hw3
  obtain ⟨q, hq⟩ : ∃ q, q = w2.heap.size := ⟨_, rfl⟩
  rw [← hq] at HQ3 HF3 ⊢
  have HQQ := Lib.hid hq
  clear hq
  go_loopw [7] (fun mv wr => ∃ more : Bool, mv = .bool more ∧ Hid (B3 wr (w.heap.size + 1) (.int .i64 0) (.slice none 0 0) (.slice none 0 0)) ∧ Hid (Ext w2 wr) ∧ Hid ((more = true → ∃ k RA rn rc rk, B3 wr q (.int .i64 1) (.slice SA sn sc) (.slice RA rn rc) ∧ RI wr RA rn rk ∧ (rn ≤ rc ∧ rc ≤ 9223372036854775807) ∧ (rn = 0 ∨ ∀ b o s, RA = some ⟨b, o, s⟩ → wb.heap.size ≤ b ∧ b ≠ q) ∧ OnG (TR s sym) o k rk) ∧ (more = false → o = none))) (fun mv wr => rkMeas (TR s sym) o q mv wr)
  case atStart => exact ⟨true, rfl, Lib.hid ((HZ.out.ext HE2.out).ext HE23.out), HE23, Lib.hid ⟨fun _ => ⟨_, RA, rn, rc, _, HQ3.out, HR3.out, hcp2, HF3.out, HW0.out⟩, fun h => by cases h⟩⟩
  case round =>
    obtain ⟨more, rfl, hZ, hEr, hI⟩ := hrel
    have hErb := Lib.hid (Ext.trans HE2.out hEr.out)
    have HErw := Lib.hid (Ext.trans HEwb.out hErb.out)
    have k0 := Ext.keep hErb.out hb0
    have k1 := Ext.keep hErb.out hb1
    have z0 := hZ.out.c0
    have z1 := hZ.out.c1
    have z2 := hZ.out.c2
    have zf := hZ.out.fr
    cases more with
    | false =>
      have HN := Lib.hid (hI.out.2 rfl)
      have hxx : (((wr.setCell ⟨w.heap.size + 1, 0, none⟩ (.int .i64 0)).setCell ⟨w.heap.size + 1, 1, none⟩ (.slice none 0 0)).setCell ⟨w.heap.size + 1, 2, none⟩ (.slice none 0 0)).heap.size = wr.heap.size := by simp
      go_wp2_with fail
      refine bodyPost_ret (v := .tuple #[.agg #[.int .i64 0, .slice none 0 0, .slice none 0 0], .bool false]) (by simp [results, Try.results64, go_sem, z0, z1, z2, zf]) rfl ?_
      rw [HN.out]
      exact ⟨rfl, ((HErw.out.set (by simp) _).set (by simp) _).set (by simp) _⟩
    | true =>
      have hex : ∃ k, ∃ A n c rk, wr.cell? ⟨q, 2, none⟩ = some (.slice A n c) ∧ RI wr A n rk ∧ OnG (TR s sym) o k rk := by
        obtain ⟨k, RA, rn, rc, rk, h1, h2, _, _, h3⟩ := hI.out.1 rfl
        exact ⟨k, RA, rn, rc, rk, h1.c2, h2, h3⟩
      obtain ⟨⟨A', n', c', rk, e', hX, hW⟩, _⟩ := leastOf_spec hex
      obtain ⟨_, RA, rn, rc, _, hQ, _, hcp, hF, _⟩ := hI.out.1 rfl
      rw [hQ.c2] at e'
      have e1 : RA = A' := by cases e'; rfl
      have e2 : rn = n' := by cases e'; rfl
      have e3 : rc = c' := by cases e'; rfl
      subst e1; subst e2; subst e3
      clear e'
      have HX := Lib.hid hX
      have HW := Lib.hid hW
      have HF := Lib.hid hF
      have HQ := Lib.hid hQ
      have q0 := hQ.c0
      have q1 := hQ.c1
      have q2 := hQ.c2
      obtain ⟨g, hg⟩ : ∃ g, kboOrients s ⟨1, sym, rk⟩ = g := ⟨_, rfl⟩
      have HG := Lib.hid hg
      clear hX hW hex hQ hF hg
      go_wp2_with fail
      (with_reducible refine (c_sKboOrP HG.out (RdSyK.mk (RI.ext HA.out HErw.out) (RR.ext HB.out HErw.out)) (RdWt.mk (t := ⟨1, sym, rk⟩) (RI.ext HS.out HErw.out) HX.out)).mono ?_)
      rintro e w5 ⟨rfl, hE5⟩
      have HE5 := Lib.hid (Ext.trans hEr.out hE5)
      have HE5w := Lib.hid (Ext.trans HErw.out hE5)
      have HX5 := Lib.hid (RI.ext HX.out hE5)
      have HQ5 := Lib.hid (HQ.out.ext hE5)
      have HZ5 := Lib.hid (hZ.out.ext hE5)
      have y0 := HQ5.out.c0
      have y1 := HQ5.out.c1
      have y2 := HQ5.out.c2
      have yf := HQ5.out.fr
      have x0 := HZ5.out.c0
      have x1 := HZ5.out.c1
      have x2 := HZ5.out.c2
      have xf := HZ5.out.fr
      clear k0 k1 z0 z1 z2 zf q0 q1 q2
      cases g with
      | true =>
        have ho : o = some rk := HW.out.yes HG.out
        go_wp2_with fail
        refine bodyPost_ret (v := .tuple #[.agg #[.int .i64 1, .slice SA sn sc, .slice RA rn rc], .bool true]) (by simp [results, Try.results64, go_sem, x0, x1, x2, xf]) rfl ?_
        rw [ho]
        have hfar : rn = 0 ∨ ∀ b o s, RA = some ⟨b, o, s⟩ → b ≠ w.heap.size + 1 := HF.out.imp id fun h b o s e => by have := (h b o s e).1; have := HBS.out; omega
        exact ⟨⟨RA, rn, rc, rfl, ((HX5.out.setW _ hfar).setW _ hfar).setW _ hfar, HF.out.imp id fun h b o s e => by have := (h b o s e).1; have := HBS.out; omega⟩, ((HE5w.out.set (by simp) _).set (by simp) _).set (by simp) _⟩
      | false =>
        have hgo : ¬ TR s sym rk := fun h => by have h2 : kboOrients s ⟨1, sym, rk⟩ = true := h; rw [HG.out] at h2; cases h2
        obtain ⟨nb, hnb⟩ : ∃ b, nextB rk = b := ⟨_, rfl⟩
        have HNB := Lib.hid hnb
        clear hnb
        go_wp2_with fail
        (with_reducible refine (c_sNextRank HX5.out hcp).mono ?_)
        rintro e w6 ⟨NA, nn, nc, rfl, hncp, hnfar, hNR, hE6⟩
        rw [HNB.out]
        have HQ6 := Lib.hid (HQ5.out.ext hE6)
        have HZ6 := Lib.hid (HZ5.out.ext hE6)
        have HE6 := Lib.hid (Ext.trans HE5.out hE6)
        have hq5 := HQ5.out.lt
        have hs5 := HE5.out.size
        have HNR := Lib.hid hNR
        have hqw : w2.heap.size ≤ q := by rw [HQQ.out]; exact Nat.le_refl _
        have HNF := Lib.hid (show nn = 0 ∨ ∀ b o s, NA = some ⟨b, o, s⟩ → wb.heap.size ≤ b ∧ b ≠ q from hnfar.imp id fun h b o s e => by have := h b o s e; omega)
        have v0 := HQ6.out.c0
        have v1 := HQ6.out.c1
        have v2 := HQ6.out.c2
        have vf := HQ6.out.fr
        clear y0 y1 y2 yf x0 x1 x2 xf hNR hnfar
        go_wp2_with fail
        have HQ7 := Lib.hid (HQ6.out.put2 (.slice NA nn nc))
        have HZ7 := Lib.hid (HZ6.out.far (p := ⟨q, 2, none⟩) (.slice NA nn nc) (by have := HBS.out; have := HQQ.out; show w.heap.size + 1 ≠ q; omega))
        have HE7 := Lib.hid (HE6.out.set (show w2.heap.size ≤ (⟨q, 2, none⟩ : Addr).block from hqw) (.slice NA nn nc))
        have HR7 := Lib.hid (HNR.out.setW (p := ⟨q, 2, none⟩) (.slice NA nn nc) (HNF.out.imp id fun h b o s e => (h b o s e).2))
        have HNX := Lib.hid (show (nb = true → ∃ m, m < leastOf (fun k => ∃ A n c rk, wr.cell? ⟨q, 2, none⟩ = some (.slice A n c) ∧ RI wr A n rk ∧ OnG (TR s sym) o k rk) ∧ OnG (TR s sym) o m (nextV rk)) ∧ (nb = false → o = none) from ⟨fun e => by rw [e] at HNB; exact HW.out.next hgo HNB.out, fun e => by rw [e] at HNB; exact HW.out.stop hgo HNB.out⟩)
        go_roundw
        case rel => exact ⟨nb, rfl, HZ7, HE7, Lib.hid ⟨fun e => by
          obtain ⟨m, _, hm⟩ := HNX.out.1 e
          exact ⟨m, NA, nn, nc, _, HQ7.out, HR7.out, hncp, HNF.out, hm⟩, HNX.out.2⟩⟩
        case measure =>
          rw [rkMeas_t]
          cases nb with
          | false => rw [rkMeas_f]; omega
          | true =>
            rw [rkMeas_t]
            obtain ⟨m, hm1', hm2⟩ := HNX.out.1 rfl
            have := leastOf_le (R := fun k => ∃ A n c rk, (w6.setCell ⟨q, 2, none⟩ (.slice NA nn nc)).cell? ⟨q, 2, none⟩ = some (.slice A n c) ∧ RI (w6.setCell ⟨q, 2, none⟩ (.slice NA nn nc)) A n rk ∧ OnG (TR s sym) o k rk) ⟨NA, nn, nc, _, HQ7.out.c2, HR7.out, hm2⟩
            omega

end Go.Proofs.Ytjmdfjinicbkeaa
