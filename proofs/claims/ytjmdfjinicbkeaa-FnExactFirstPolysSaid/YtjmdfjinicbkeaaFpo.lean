/- Several texts in one: MFpo, Up, Rep, FpoS, FpoI. -/
import Derived.Test.YtjmdfjinicbkeaaMPoly
import Derived.Test.YtjmdfjinicbkeaaMStrict
import Derived.Test.YtjmdfjinicbkeaaMUp
import Derived.Test.YtjmdfjinicbkeaaMark
import Derived.Test.YtjmdfjinicbkeaaHeld
import Derived.Test.YtjmdfjinicbkeaaInts
import Derived.Laws.CopyOwn
import Derived.StillTailTactics
import Derived.Test.YtjmdfjinicbkeaaFormO
import Derived.Test.YtjmdfjinicbkeaaFpB
import Derived.Test.YtjmdfjinicbkeaaTries
import Derived.Test.YtjmdfjinicbkeaaCopy
import Derived.Test.YtjmdfjinicbkeaaOpenT
-- rd: RdI RdPs RdPl RdSyK
namespace Go.Proofs.Ytjmdfjinicbkeaa
open Go.RowKit
set_option linter.unusedSimpArgs false
set_option linter.unusedVariables false

/-! Plain: polynomials out of a list of numbers. -/
/-- How many numbers they take. -/
def offs : List Int → Nat
  | [] => 0
  | n :: ar => (n.toNat + 1) + offs ar
theorem offs_append : ∀ (ls bs : List Int), offs (ls ++ bs) = offs ls + offs bs
  | [], bs => by simp [offs]
  | n :: ls, bs => by rw [List.cons_append, offs, offs, offs_append ls bs]; omega
theorem take_succ_at {ar : List Int} {k : Nat} {n : Int} (h : ar[k]? = some n) : ar.take (k + 1) = ar.take k ++ [n] := by rw [List.take_add_one, h]; rfl
theorem offs_succ {ar : List Int} {k : Nat} {n : Int} (h : ar[k]? = some n) : offs (ar.take (k + 1)) = offs (ar.take k) + (n.toNat + 1) := by
  rw [take_succ_at h, offs_append]; simp [offs]
theorem offs_le (ar : List Int) (k : Nat) : offs (ar.take k) ≤ offs ar := by
  conv => rhs; rw [← List.take_append_drop k ar]
  rw [offs_append]; omega
theorem offs_bd {ar : List Int} (h : ∀ n ∈ ar, 0 ≤ n ∧ n ≤ 3) : offs ar ≤ 4 * ar.length := by
  induction ar with
  | nil => simp [offs]
  | cons n ar ih =>
    have h1 := h n List.mem_cons_self
    have h2 := ih fun m hm => h m (List.mem_cons_of_mem _ hm)
    rw [offs, List.length_cons]; omega
/-- The least numbers. -/
def lowL : List Int → List Int
  | [] => []
  | n :: ar => (0 :: List.replicate n.toNat 1) ++ lowL ar
theorem lowL_append : ∀ (ls bs : List Int), lowL (ls ++ bs) = lowL ls ++ lowL bs
  | [], bs => rfl
  | n :: ls, bs => by rw [List.cons_append, lowL, lowL, lowL_append ls bs, List.append_assoc]
theorem lowL_len : ∀ (ar : List Int), (lowL ar).length = offs ar
  | [] => rfl
  | n :: ar => by rw [lowL, offs, List.length_append, lowL_len ar]; simp
theorem lowL_succ {ar : List Int} {k : Nat} {n : Int} (h : ar[k]? = some n) : lowL (ar.take (k + 1)) = lowL (ar.take k) ++ (0 :: List.replicate n.toNat 1) := by
  rw [take_succ_at h, lowL_append]; simp [lowL]
/-- The polynomials. -/
def polysOf : List Int → List Int → List Pl
  | [], _ => []
  | n :: ar, xs => ⟨xs.getD 0 0, (xs.drop 1).take n.toNat⟩ :: polysOf ar (xs.drop (n.toNat + 1))
theorem polysOf_append : ∀ (ls bs xs : List Int), polysOf (ls ++ bs) xs = polysOf ls xs ++ polysOf bs (xs.drop (offs ls))
  | [], bs, xs => by simp [polysOf, offs]
  | n :: ls, bs, xs => by
    rw [List.cons_append, polysOf, polysOf, polysOf_append ls bs, offs, List.drop_drop]; rfl
theorem polysOf_len : ∀ (ar xs : List Int), (polysOf ar xs).length = ar.length
  | [], _ => rfl
  | n :: ar, xs => by rw [polysOf, List.length_cons, polysOf_len ar, List.length_cons]
theorem polysOf_succ {ar xs : List Int} {k : Nat} {n : Int} (h : ar[k]? = some n) : polysOf (ar.take (k + 1)) xs = polysOf (ar.take k) xs ++ [⟨xs.getD (offs (ar.take k)) 0, (xs.drop (offs (ar.take k) + 1)).take n.toNat⟩] := by
  rw [take_succ_at h, polysOf_append]
  congr 1
  rw [polysOf, polysOf]
  congr 2
  · rw [List.getD_eq_getElem?_getD, List.getD_eq_getElem?_getD, List.getElem?_drop]; rfl
  · rw [List.drop_drop]
theorem Btw.split : ∀ {l1 l2 h1 h2 xs : List Int}, h1.length = l1.length → Btw xs (l1 ++ l2) (h1 ++ h2) → Btw (xs.take l1.length) l1 h1 ∧ Btw (xs.drop l1.length) l2 h2
  | [], l2, [], h2, xs, _, h => ⟨by simp [Btw], by simpa using h⟩
  | l :: l1, l2, h :: h1, h2, [], e, hb => by simp [Btw] at hb
  | l :: l1, l2, h :: h1, h2, x :: xs, e, hb => by
    have hb' : (l ≤ x ∧ x ≤ h) ∧ Btw xs (l1 ++ l2) (h1 ++ h2) := hb
    obtain ⟨k1, k2⟩ := Btw.split (by simpa using e) hb'.2
    exact ⟨⟨hb'.1, k1⟩, k2⟩
  | [], _, _ :: _, _, _, e, _ => by simp at e
  | _ :: _, _, [], _, _, e, _ => by simp at e
theorem polys_between {most : Int} (h3 : most ≤ 3) : ∀ {ar xs : List Int}, (∀ n ∈ ar, 0 ≤ n) → Btw xs (lowL ar) (List.replicate (offs ar) most) → ∀ (j : Nat) (p : Pl) (n : Int), (polysOf ar xs)[j]? = some p → ar[j]? = some n → (p.cf.length : Int) = n ∧ (0 ≤ p.c ∧ p.c ≤ 9) ∧ ∀ x ∈ p.cf, 1 ≤ x ∧ x ≤ 9
  | [], xs, _, _, j, p, n, hp, _ => by simp [polysOf] at hp
  | m :: ar, xs, h0, hb, j, p, n, hp, hn => by
    rw [lowL, offs, ← List.replicate_append_replicate] at hb
    obtain ⟨k1, k2⟩ := Btw.split (by simp) hb
    have hm := h0 m List.mem_cons_self
    rw [List.length_cons, List.length_replicate] at k1 k2
    cases j with
    | zero =>
      rw [polysOf] at hp
      cases hp; cases hn
      have hlen := k1.len.1
      rw [List.length_take, List.length_cons, List.length_replicate] at hlen
      refine ⟨?_, ?_, fun x hx => ?_⟩
      · show (((xs.drop 1).take m.toNat).length : Int) = m
        rw [List.length_take, List.length_drop]; omega
      · show 0 ≤ xs.getD 0 0 ∧ xs.getD 0 0 ≤ 9
        have h1 : (xs.take (m.toNat + 1))[0]? = some (xs.getD 0 0) := by
          rw [List.getElem?_take, if_pos (by omega), List.getD_eq_getElem?_getD, List.getElem?_eq_getElem (by omega)]; rfl
        obtain ⟨l, h, e1, e2, e3, e4⟩ := Btw.at_ k1 h1
        simp at e1
        rw [List.getElem?_replicate, if_pos (by omega)] at e2
        cases e2
        omega
      · obtain ⟨i, hi⟩ := List.mem_iff_getElem?.1 hx
        have hi' : ((xs.drop 1).take m.toNat)[i]? = some x := hi
        have him : i < m.toNat := by
          have := (List.getElem?_eq_some_iff.1 hi').1
          rw [List.length_take] at this; omega
        rw [List.getElem?_take, if_pos him, List.getElem?_drop] at hi'
        have h1 : (xs.take (m.toNat + 1))[1 + i]? = some x := by rw [List.getElem?_take, if_pos (by omega), hi']
        obtain ⟨l, h, e1, e2, e3, e4⟩ := Btw.at_ k1 h1
        rw [Nat.add_comm, List.getElem?_cons_succ, List.getElem?_replicate, if_pos him] at e1
        rw [List.getElem?_replicate, if_pos (by omega)] at e2
        cases e1; cases e2
        omega
    | succ j =>
      rw [polysOf, List.getElem?_cons_succ] at hp
      rw [List.getElem?_cons_succ] at hn
      exact polys_between h3 (fun n hn => h0 n (List.mem_cons_of_mem _ hn)) k2 j p n hp hn
theorem lowL_btw {most : Int} (h1 : 1 ≤ most) : ∀ (ar : List Int), Btw (lowL ar) (lowL ar) (List.replicate (offs ar) most) := by
  intro ar
  refine Btw.of rfl (by rw [List.length_replicate, lowL_len]) fun k x l h e1 e2 e3 => ?_
  rw [e1] at e2; cases e2
  rw [List.getElem?_replicate] at e3
  split at e3
  · cases e3
    refine ⟨Int.le_refl _, ?_⟩
    have : ∀ (ar : List Int), ∀ x ∈ lowL ar, x ≤ 1 := by
      intro ar
      induction ar with
      | nil => intro x hx; simp [lowL] at hx
      | cons n ar ih =>
        intro x hx
        rw [lowL] at hx
        rcases List.mem_append.1 hx with hx | hx
        · rcases List.mem_cons.1 hx with rfl | hx
          · omega
          · rw [(List.mem_replicate.1 hx).2]; omega
        · exact ih x hx
    have := this ar x (List.mem_of_getElem? e1)
    omega
  · cases e3

/-! Numbers counted up in place: the program's. -/
/-- Numbers, so many of which are still to be looked at. -/
theorem up_mid {xs ls : List Int} {j : Nat} {l : Int} (hl : xs.length = ls.length) (h : ls[j]? = some l) : (xs.take (j + 1) ++ ls.drop (j + 1)).set j l = xs.take j ++ ls.drop j := by
  obtain ⟨h1, h2⟩ := List.getElem?_eq_some_iff.1 h
  have hj : j < xs.length := by omega
  rw [List.take_add_one, List.getElem?_eq_getElem hj, List.append_assoc]
  rw [List.set_append_right _ _ (by simp; omega), List.length_take, Nat.min_eq_left (by omega), Nat.sub_self]
  simp [List.drop_eq_getElem_cons h1, h2]
theorem up_mid2 {xs ls : List Int} {j : Nat} {x : Int} (y : Int) (h : xs[j]? = some x) : (xs.take (j + 1) ++ ls.drop (j + 1)).set j y = xs.take j ++ y :: ls.drop (j + 1) := by
  obtain ⟨h1, h2⟩ := List.getElem?_eq_some_iff.1 h
  rw [List.take_add_one, h, List.append_assoc]
  rw [List.set_append_right _ _ (by simp; omega), List.length_take, Nat.min_eq_left (by omega), Nat.sub_self]
  simp
theorem up_get {xs ls : List Int} {j : Nat} {x : Int} (h : xs[j]? = some x) : (xs.take (j + 1) ++ ls.drop (j + 1))[j]? = some x := by
  obtain ⟨h1, h2⟩ := List.getElem?_eq_some_iff.1 h
  rw [List.getElem?_append_left (by simp; omega), List.getElem?_take, if_pos (by omega), h]
set_option maxRecDepth 100000 in
set_option maxHeartbeats 4000000 in
theorem c_countUp {A L H : Option Addr} {n c lc hc B : Nat} {xs ls hs ys : List Int} {b : Bool} {w : World} (hu : up xs ls hs = (ys, b)) (h0 : OwI w B A n c xs) (h1 : RI w L n ls) (h2 : RI w H n hs) (hbt : Btw xs ls hs)
    (hL : ∀ g o s g' o' s', A = some ⟨g, o, s⟩ → L = some ⟨g', o', s'⟩ → g' ≠ g) (hH : ∀ g o s g' o' s', A = some ⟨g, o, s⟩ → H = some ⟨g', o', s'⟩ → g' ≠ g) (hbig : (∀ (k : Nat) (h : Int), hs[k]? = some h → h ≤ 1000000) ∧ ∀ (k : Nat) (l : Int), ls[k]? = some l → -1000000 ≤ l) :
    Calls Try.prog 60 #[.slice A n c, .slice L n lc, .slice H n hc] w fun e w' => e = .returned (.bool b) ∧ OwI w' B A n c ys ∧ OnlyA w w' A := by
  have hn := h0.le
  have hxl := h0.len
  have hll := h1.len
  have hhl := h2.len
  have H0 := Lib.hid h0
  have HL := Lib.hid h1
  have HH := Lib.hid h2
  have HU := Lib.hid hu
  have HBT := Lib.hid hbt
  have HBIG := Lib.hid hbig
  clear h0 h1 h2 hu hbt hbig
  go_enter Try.func60, Try.ntmps60
  go_wp2_with fail
  go_loopw [7] (fun i wr => ∃ j : Nat, i = .int .i64 ((j : Int) - 1) ∧ j ≤ n ∧ Hid (OwI wr B A n c (xs.take j ++ ls.drop j) ∧ up (xs.drop j) (ls.drop j) (hs.drop j) = (ls.drop j, false)) ∧ Hid (OnlyA w wr A)) (fun i _ => (intOf i + 1).toNat)
  case atStart => exact ⟨n, by go_num, Nat.le_refl _, Lib.hid ⟨by rw [List.take_of_length_le (by omega), List.drop_of_length_le (by omega), List.append_nil]; exact H0.out, by rw [List.drop_of_length_le (by omega), List.drop_of_length_le (by omega), List.drop_of_length_le (by omega)]; rfl⟩, Lib.hid (OnlyA.refl _ _)⟩
  case round =>
    obtain ⟨j1, rfl, hj1, hO, hG⟩ := hrel
    rcases Nat.eq_zero_or_pos j1 with hz | hz
    · subst hz
      have hz0 : ¬ ((0 : Nat) : Int) - 1 ≥ 0 := by omega
      have HE := Lib.hid (show ys = ls ∧ b = false by
        have h3 := hO.out.2
        rw [List.drop_zero, List.drop_zero, List.drop_zero, HU.out] at h3
        cases h3; exact ⟨rfl, rfl⟩)
      have HO := Lib.hid (show OwI wr B A n c ls by have := hO.out.1; simpa using this)
      go_wp2
      go_ret
      exact ⟨ret_bool HE.out.2.symm, by rw [HE.out.1]; exact HO.out, hG.out⟩
    · obtain ⟨j, rfl⟩ : ∃ j, j1 = j + 1 := ⟨j1 - 1, by omega⟩
      have hji : (((j + 1 : Nat) : Int)) - 1 = (j : Int) := by omega
      rw [hji]
      have hjn : j < n := by omega
      obtain ⟨g, rfl, hgB, _⟩ : ∃ g, A = some ⟨g, 0, none⟩ ∧ B ≤ g ∧ g < wr.heap.size := by
        rcases hO.out.1.form with ⟨_, h0, _⟩ | h
        · omega
        · exact h
      obtain ⟨x, hx⟩ : ∃ x, xs[j]? = some x := ⟨_, List.getElem?_eq_getElem (by omega)⟩
      obtain ⟨l, h, hl, hh, hlx, hxh⟩ := HBT.out.at_ hx
      obtain ⟨x', hx', hcx, hfx⟩ := OwI.at_ hO.out.1 hjn
      rw [up_get hx] at hx'; cases hx'
      obtain ⟨bl, ol, l', rfl, hl', hcl⟩ := RI.at_ (RI.onlyA HL.out hG.out hL) hjn
      rw [hl] at hl'; cases hl'
      obtain ⟨bh, oh, h', rfl, hh', hch⟩ := RI.at_ (RI.onlyA HH.out hG.out hH) hjn
      rw [hh] at hh'; cases hh'
      have hhb := HBIG.out.1 j h hh
      have hlb := HBIG.out.2 j l hl
      have HXJ := Lib.hid hx
      have HLJ := Lib.hid hl
      have HHJ := Lib.hid hh
      have hj0 : (0 : Int) ≤ (j : Int) := by omega
      have hjd : decide ((0 : Int) ≤ (j : Int)) = true := by simp
      have hjni : (j : Int) < (n : Int) := by omega
      have hgl : g < wr.heap.size := World.block_lt_of_cell? wr _ hcx
      clear hx hl hh
      by_cases hxh2 : x < h
      · have hd2 : decide (x < h) = true := by simpa using hxh2
        have HE := Lib.hid (show ys = xs.take j ++ (x + 1) :: ls.drop (j + 1) ∧ b = true by
          have h3 := up_at (by omega) (by omega) HXJ.out HHJ.out hxh2 hO.out.2
          rw [HU.out] at h3
          cases h3; exact ⟨rfl, rfl⟩)
        have hw1 : IntKind.i64.wrap (x + 1) = x + 1 := IntWalk.i64_in _ (by omega)
        go_wp2_with fail
        go_quiet (fail)
        have HN := Lib.hid (show OwI ((wr.drewN nq).setCell ⟨g, j, none⟩ (.int .i64 (x + 1))) B (some ⟨g, 0, none⟩) n c (xs.take j ++ (x + 1) :: ls.drop (j + 1)) by rw [← up_mid2 (x + 1) HXJ.out]; exact OwI.set (OwI.drewN hO.out.1 nq) j (x + 1))
        have HG := Lib.hid (OnlyA.trans (OnlyA.trans hG.out (OnlyA.of_ext (by exact extX : Ext wr (wr.drewN nq)) _)) (Only.setCell (wr.drewN nq) g j (.int .i64 (x + 1))))
        go_wp2
        go_ret
        exact ⟨ret_bool HE.out.2.symm, by rw [HE.out.1]; exact HN.out, HG.out⟩
      · have hd2 : decide (x < h) = false := by simpa using hxh2
        have HB := Lib.hid (up_back HXJ.out HLJ.out HHJ.out hxh2 hO.out.2)
        go_wp2_with fail
        go_quiet (fail)
        have HN := Lib.hid (show OwI ((wr.drewN nq).setCell ⟨g, j, none⟩ (.int .i64 l)) B (some ⟨g, 0, none⟩) n c (xs.take j ++ ls.drop j) by rw [← up_mid (by omega) HLJ.out]; exact OwI.set (OwI.drewN hO.out.1 nq) j l)
        have HG := Lib.hid (OnlyA.trans (OnlyA.trans hG.out (OnlyA.of_ext (by exact extX : Ext wr (wr.drewN nq)) _)) (Only.setCell (wr.drewN nq) g j (.int .i64 l)))
        go_wp2
        go_roundw
        case rel => exact ⟨j, by go_num, by omega, Lib.hid ⟨HN.out, HB.out⟩, HG⟩
        case measure => simp only [intOf]; omega

/-! slices.Repeat of one number, a few times. -/
set_option maxHeartbeats 4000000 in
theorem c_Mul64 {n : Nat} {w : World} (hn : n ≤ 40) : Calls Try.prog 151 #[.int .u64 1, .int .u64 (n : Int)] w fun e w' => e = .returned (.tuple #[.int .u64 0, .int .u64 (n : Int)]) ∧ w = w' := by
  go_enter Try.func151, Try.ntmps151
  go_wp2
  refine bodyPost_ret (v := .tuple #[.int .u64 0, .int .u64 (n : Int)]) ?_ rfl ⟨rfl, rfl⟩
  rcases (show n = 0 ∨ n = 1 ∨ n = 2 ∨ n = 3 ∨ n = 4 ∨ n = 5 ∨ n = 6 ∨ n = 7 ∨ n = 8 ∨ n = 9 ∨ n = 10 ∨ n = 11 ∨ n = 12 ∨ n = 13 ∨ n = 14 ∨ n = 15 ∨ n = 16 ∨ n = 17 ∨ n = 18 ∨ n = 19 ∨ n = 20 ∨ n = 21 ∨ n = 22 ∨ n = 23 ∨ n = 24 ∨ n = 25 ∨ n = 26 ∨ n = 27 ∨ n = 28 ∨ n = 29 ∨ n = 30 ∨ n = 31 ∨ n = 32 ∨ n = 33 ∨ n = 34 ∨ n = 35 ∨ n = 36 ∨ n = 37 ∨ n = 38 ∨ n = 39 ∨ n = 40 from by omega) with rfl | rfl | rfl | rfl | rfl | rfl | rfl | rfl | rfl | rfl | rfl | rfl | rfl | rfl | rfl | rfl | rfl | rfl | rfl | rfl | rfl | rfl | rfl | rfl | rfl | rfl | rfl | rfl | rfl | rfl | rfl | rfl | rfl | rfl | rfl | rfl | rfl | rfl | rfl | rfl | rfl
  all_goals (simp [results, Try.results151, go_sem]; try decide)
set_option maxHeartbeats 4000000 in
theorem c_Mul {n : Nat} {w : World} (hn : n ≤ 40) : Calls Try.prog 119 #[.int .u64 1, .int .u64 (n : Int)] w fun e w' => e = .returned (.tuple #[.int .u64 0, .int .u64 (n : Int)]) ∧ w = w' := by
  go_enter Try.func119, Try.ntmps119
  go_wp2_with fail
  (with_reducible refine (c_Mul64 hn).mono ?_)
  rintro e w2 ⟨rfl, rfl⟩
  go_wp2_with fail
  exact bodyPost_ret (v := .tuple #[.int .u64 0, .int .u64 (n : Int)]) (by simp [results, Try.results119, go_sem]) rfl ⟨rfl, rfl⟩
/-- p places are filled. -/
def fill (x : Int) (p n : Nat) : List Value := (List.replicate p x ++ List.replicate (n - p) 0).map (Value.int .i64)
theorem fill_len (x : Int) {p n : Nat} (h : p ≤ n) : (fill x p n).length = n := by simp [fill]; omega
theorem fill_get {x : Int} {p n j : Nat} (h : j < p) : (fill x p n)[j]? = some (.int .i64 x) := by
  unfold fill
  rw [List.getElem?_map, List.getElem?_append_left (by simpa using h), List.getElem?_replicate, if_pos h]; rfl
theorem fill_splice {x : Int} {p k n : Nat} (h : p + k ≤ n) : splice (fill x p n) p ((List.replicate k x).map (Value.int .i64)) = fill x (p + k) n := by
  unfold splice fill
  rw [← List.map_take, ← List.map_drop, ← List.map_append, ← List.map_append]
  congr 1
  rw [List.take_append_of_le_length (by simp), List.take_of_length_le (by simp), List.length_map, List.length_replicate, List.drop_append, List.drop_of_length_le (by simp), List.nil_append, List.drop_replicate, List.length_replicate, ← List.append_assoc, List.replicate_append_replicate]
  congr 2
  omega
theorem fill_ints {w : World} {g n B : Nat} {x : Int} (hg : w.heap[g]? = some (.cells (fill x n n).toArray 2 (0, 0))) (hB : B ≤ g) (hn : n ≤ 40) : OwI w B (some ⟨g, 0, none⟩) n n (List.replicate n x) := by
  refine ⟨by omega, by simp, .inr ⟨g, n, (fill x n n).toArray, rfl, hB, hg, Nat.le_refl _, by unfold maxLen; omega, by simp [fill], ?_⟩⟩
  rw [List.toList_toArray, List.take_of_length_le (by simp [fill])]
  simp [fill]
theorem fill_pos {w : World} {x : Int} {p n k g : Nat} {ds : List Value} (hds : ds = (List.replicate k x).map (Value.int .i64)) (hk : k ≤ p) (hg : w.heap[g]? = some (.cells (fill x p n).toArray 2 (0, 0))) :
    0 < ds.length → (some ⟨g, 0 + p, none⟩ : Option Addr) = some ⟨g, 0 + p, none⟩ ∧ ∃ ad, (some ⟨g, 0, none⟩ : Option Addr) = some ad ∧ ∀ j v, ds[j]? = some v → w.cell? (ad.add j) = some v := fun _ => ⟨rfl, _, rfl, fun j v hj => by
  rw [hds, List.getElem?_map, List.getElem?_replicate] at hj
  split at hj
  · rename_i hjl
    simp at hj; subst hj
    have h1 : w.cell? ⟨g, j, none⟩ = some (.int .i64 x) := by
      rw [cell_of_row w _ _ _ _ (0, 0) hg, List.getElem?_toArray]
      exact fill_get (by omega)
    by_cases hj0 : j = 0
    · subst hj0; simpa [Addr.add] using h1
    · simpa [Addr.add, hj0] using h1
  · cases hj⟩
theorem fill_made {w : World} {g B n : Nat} {x : Int} (h : w.ownsRow B 2 1 (.slice (some ⟨g, 0, none⟩) n n) n (madeCells #[Value.int .i64 0] n).toList) : w.heap[g]? = some (.cells (fill x 0 n).toArray 2 (0, 0)) := by
  rcases h.2 with ⟨h2, _⟩ | ⟨g', cap, cur, hv, hg, hh, h1, h2, h3, h4⟩
  · cases h2
  · cases hv
    rw [hh]
    have e : cur.toList = fill x 0 n := by
      rw [List.take_of_length_le (by simp [h3])] at h4
      rw [h4, madeInts]
      simp [fill]
    rw [← e]
set_option maxRecDepth 100000 in
set_option maxHeartbeats 4000000 in
theorem c_Repeat {b o c n : Nat} {x : Int} {w : World} (h0 : w.cell? ⟨b, o, none⟩ = some (.int .i64 x)) (hc : 1 ≤ c ∧ c ≤ 9223372036854775807) (hn : n ≤ 40) :
    Calls Try.prog 96 #[.slice (some ⟨b, o, none⟩) 1 c, .int .i64 (n : Int)] w (NewI w (List.replicate n x)) := by
  have hn0 : ¬ (n : Int) < 0 := by omega
  have hw1 : IntKind.u64.wrap (n : Int) = (n : Int) := by unfold IntKind.wrap; simp [IntKind.bits]; omega
  have hw2 : IntKind.i64.wrap (n : Int) = (n : Int) := IntWalk.i64_in _ (by omega)
  have hmx : ¬ ((n : Int) > 9223372036854775807) := by omega
  obtain ⟨i0, hii, hiz, his, hib⟩ := info_parts int64_info
  go_enter Try.func96, Try.ntmps96
  go_wp2_with fail
  (with_reducible refine (c_Mul hn).mono ?_)
  rintro e w2 ⟨rfl, rfl⟩
  have hsz : (Try.prog.info? 2).map (·.size) = some 1 := by rw [hii]; simp [his]
  go_wp2_with (at_make; refine wpList_make_full _ rfl _ _ 22 rfl w.heap.size 2 i0 _ 1 Try.underlying22 hii hiz his _ _ _ _ n rfl rfl rfl rfl (by rw [hib]; omega) (by simp only [maxLen]; omega) (Nat.le_refl _) ?_)
  intro w3 hown0 hg3
  have hE3 : Ext w w3 := Ext.grown (Ext.refl _) hg3 (fun k hk => by cases hk)
  have HH := Lib.hid (fill_made (x := x) hown0)
  have h30 := Ext.keep hE3 h0
  obtain ⟨cs, hcs⟩ : ∃ cs, cs = (List.replicate (min 1 n) x).map (Value.int .i64) := ⟨_, rfl⟩
  have hcl : cs.length = min 1 n := by rw [hcs]; simp
  have HCS := Lib.hid hcs
  clear hown0 hg3 hcs
  have hpos : 0 < cs.length → (some ⟨w.heap.size, 0, none⟩ : Option Addr) = some ⟨w.heap.size, 0, none⟩ ∧ ∃ ad, (some ⟨b, o, none⟩ : Option Addr) = some ad ∧ ∀ j v, cs[j]? = some v → w3.cell? (ad.add j) = some v := fun _ => ⟨rfl, _, rfl, fun j v hj => by
    rw [HCS.out, List.getElem?_map, List.getElem?_replicate] at hj
    split at hj
    · obtain rfl : j = 0 := by omega
      simp at hj; subst hj; simpa [Addr.add] using h30
    · cases hj⟩
  have hone : ∀ v ∈ cs, v.oneCell' = true := fun v hv => by
    rw [HCS.out] at hv
    obtain ⟨y, _, rfl⟩ := List.mem_map.1 hv; rfl
  have hfit : 0 + cs.length ≤ (fill x 0 n).length := by rw [fill_len x (Nat.zero_le n), hcl]; omega
  have HS3 := Lib.hid (show splice (fill x 0 n) 0 cs = fill x (min 1 n) n by rw [HCS.out, fill_splice (by omega), Nat.zero_add])
  go_wp2_with (refine wpList_copy_splice rfl (.tmp 31) (.tmp 32) 22 22 rfl 2 Try.underlying22 hsz _ _ _ _ _ _ rfl rfl w.heap.size 0 (fill x 0 n) 2 HH.out cs hcl hpos hfit hone w.heap.size w hE3 (Nat.le_refl _) ?_)
  intro w4 HG4 hE4
  rw [HS3.out] at HG4
  clear hpos hone hfit
  go_wp2
  go_loopw [8] (fun i wr => ∃ p : Nat, i = .int .i64 p ∧ p ≤ n ∧ (p = 0 → n = 0) ∧ Hid (wr.heap[w.heap.size]? = some (.cells (fill x p n).toArray 2 (0, 0))) ∧ Ext w wr) (fun i _ => n - (intOf i).toNat)
  case atStart => exact ⟨min 1 n, rfl, by omega, by omega, HG4, hE4⟩
  case round =>
    obtain ⟨p, rfl, hp, hp0, hRow, hE⟩ := hrel
    by_cases hlt : p < n
    · have hpi : (p : Int) < (n : Int) := by omega
      have hp0i : (0 : Int) ≤ (p : Int) := by omega
      obtain ⟨ds, hds⟩ : ∃ ds, ds = (List.replicate (min p (n - p)) x).map (Value.int .i64) := ⟨_, rfl⟩
      have hdl : ds.length = min p (n - p) := by rw [hds]; simp
      have HDS := Lib.hid hds
      clear hds
      have hone : ∀ v ∈ ds, v.oneCell' = true := fun v hv => by
        rw [HDS.out] at hv
        obtain ⟨y, _, rfl⟩ := List.mem_map.1 hv; rfl
      have hfit : p + ds.length ≤ (fill x p n).length := by rw [fill_len x hp, hdl]; omega
      have HS3 := Lib.hid (show splice (fill x p n) p ds = fill x (p + min p (n - p)) n by rw [HDS.out, fill_splice (by omega)])
      have hpn : ¬ n = p := by omega
      have hwp : IntKind.i64.wrap ((p : Int) + ((min p (n - p) : Nat) : Int)) = (p : Int) + ((min p (n - p) : Nat) : Int) := IntWalk.i64_in _ (by omega)
      have hgi : goInt ds.length = .int .i64 ((min p (n - p) : Nat) : Int) := by rw [hdl]; rfl
      have hnp : ((n : Int) - (p : Int)).toNat = n - p := by omega
      go_wp2_with fail
      refine wp_region_held_drew (S := (fun w' => Ext w w')) (by kernel_rfl) ?_ (fun hH => ?_)
      · exact hE.drew
      refine wpAnyH_take_dst (i := 0) (v := .int .i64 (p : Int)) (d := some 38) rfl rfl (by kernel_rfl) (by kernel_rfl) (by kernel_rfl) (fun _ _ _ h => h) (Or.inl ⟨by rfl, ?_⟩) hH ?_
      · (intro w hSw; (try dsimp only at hSw); go_split_ands; go_simp; try with_reducible rfl)
      try simp only [Act.put, List.setIfInBounds_toArray, List.set_cons_zero, List.set_cons_succ]
      refine wpAnyH_take_dst (i := 1) (v := .slice (some ⟨w.heap.size, 0, none⟩) n n) (d := some 39) rfl rfl (by kernel_rfl) (by kernel_rfl) (by kernel_rfl) (fun _ _ _ h => h) (Or.inl ⟨by rfl, ?_⟩) hH ?_
      · (intro w hSw; (try dsimp only at hSw); go_split_ands; go_simp; try with_reducible rfl)
      try simp only [Act.put, List.setIfInBounds_toArray, List.set_cons_zero, List.set_cons_succ]
      refine wpAnyH_take_dst (i := 2) (v := .int .i64 (p : Int)) (d := some 40) rfl rfl (by kernel_rfl) (by kernel_rfl) (by kernel_rfl) (fun _ _ _ h => h) (Or.inl ⟨by rfl, ?_⟩) hH ?_
      · (intro w hSw; (try dsimp only at hSw); go_split_ands; go_simp; try with_reducible rfl)
      try simp only [Act.put, List.setIfInBounds_toArray, List.set_cons_zero, List.set_cons_succ]
      refine wpAnyH_take_dst (i := 3) (v := .slice (some ⟨w.heap.size, 0 + p, none⟩) (n - p) (n - p)) (d := some 41) rfl rfl (by kernel_rfl) (by kernel_rfl) (by kernel_rfl) (fun _ _ _ h => h) (Or.inl ⟨by rfl, ?_⟩) hH ?_
      · (intro w hSw; (try dsimp only at hSw); go_split_ands; go_simp; try with_reducible rfl)
      try simp only [Act.put, List.setIfInBounds_toArray, List.set_cons_zero, List.set_cons_succ]
      refine wpAnyH_take_dst (i := 4) (v := .slice (some ⟨w.heap.size, 0, none⟩) n n) (d := some 42) rfl rfl (by kernel_rfl) (by kernel_rfl) (by kernel_rfl) (fun _ _ _ h => h) (Or.inl ⟨by rfl, ?_⟩) hH ?_
      · (intro w hSw; (try dsimp only at hSw); go_split_ands; go_simp; try with_reducible rfl)
      try simp only [Act.put, List.setIfInBounds_toArray, List.set_cons_zero, List.set_cons_succ]
      refine wpAnyH_take_dst (i := 5) (v := .int .i64 (p : Int)) (d := some 43) rfl rfl (by kernel_rfl) (by kernel_rfl) (by kernel_rfl) (fun _ _ _ h => h) (Or.inl ⟨by rfl, ?_⟩) hH ?_
      · (intro w hSw; (try dsimp only at hSw); go_split_ands; go_simp; try with_reducible rfl)
      try simp only [Act.put, List.setIfInBounds_toArray, List.set_cons_zero, List.set_cons_succ]
      refine wpAnyH_take_dst (i := 6) (v := .slice (some ⟨w.heap.size, 0, none⟩) p n) (d := some 44) rfl rfl (by kernel_rfl) (by kernel_rfl) (by kernel_rfl) (fun _ _ _ h => h) (Or.inl ⟨by rfl, ?_⟩) hH ?_
      · (intro w hSw; (try dsimp only at hSw); go_split_ands; go_simp; try with_reducible rfl)
      try simp only [Act.put, List.setIfInBounds_toArray, List.set_cons_zero, List.set_cons_succ]
      refine wpAnyH_ready (rs := [7]) (by kernel_rfl) (by simp) ?_
      refine AllReadyH.cons rfl (fun K hK => ?_) AllReadyH.nil
      refine step_copy_splice (o := ⟨some 45, _, _, _, _, _⟩) rfl (.tmp 41) (.tmp 44) 22 22 rfl 2 Try.underlying22 hsz _ _ _ _ _ _ rfl rfl w.heap.size (0 + p) (fill x p n) 2 hRow.out ds hdl (fill_pos HDS.out (by omega) (w := wr.drew) hRow.out) (by rw [Nat.zero_add]; exact hfit) hone w.heap.size w hE.drew (Nat.le_refl _) ?_
      intro w5 HG5 hE9
      refine hK.out _ _ hE9 (fun hH9 => ?_)
      clear hK hH; have hH := hH9; clear hH9
      try simp only [Act.put, List.setIfInBounds_toArray, List.set_cons_zero, List.set_cons_succ]
      refine wpAnyH_take_dst (i := 8) (v := .int .i64 ((p + min p (n - p) : Nat) : Int)) (d := some 46) rfl rfl (by kernel_rfl) (by kernel_rfl) (by kernel_rfl) (fun _ _ _ h => h) (Or.inl ⟨by rfl, ?_⟩) hH ?_
      · (intro w hSw; (try dsimp only at hSw); go_split_ands; go_simp; try with_reducible rfl)
      try simp only [Act.put, List.setIfInBounds_toArray, List.set_cons_zero, List.set_cons_succ]
      refine wpAnyH_take_dst (i := 9) (v := .int .i64 ((p + min p (n - p) : Nat) : Int)) (d := some 8) rfl rfl (by kernel_rfl) (by kernel_rfl) (by kernel_rfl) (fun _ _ _ h => h) (Or.inl ⟨by rfl, ?_⟩) hH ?_
      · (intro w hSw; (try dsimp only at hSw); go_split_ands; go_simp; try with_reducible rfl)
      try simp only [Act.put, List.setIfInBounds_toArray, List.set_cons_zero, List.set_cons_succ]
      refine wpAnyH_done (by kernel_rfl) ?_ _
      rw [Nat.zero_add, HS3.out] at HG5
      go_wp2
      go_roundw
      case rel => exact ⟨p + min p (n - p), rfl, by omega, by omega, HG5, hH⟩
      case measure => simp only [intOf]; omega
    · obtain rfl : p = n := by omega
      go_wp2
      go_ret
      exact ⟨_, _, _, rfl, fill_ints hRow.out (Nat.le_refl _) hn, hE⟩
set_option maxHeartbeats 1000000 in
theorem c_repeated {n : Nat} {x : Int} {w : World} (hn : n ≤ 40) : Calls Try.prog 58 #[.int .i64 x, .int .i64 (n : Int)] w (NewI w (List.replicate n x)) := by
  go_enter Try.func58, Try.ntmps58
  go_wp2_with fail
  (with_reducible refine (c_Repeat (b := w.heap.size) (o := 0) (c := 1) (x := x) (by simp [go_sem]) (by omega) hn).mono ?_)
  rintro e w2 ⟨A, n2, c2, rfl, hO, hE⟩
  have HO := Lib.hid hO
  clear hO
  go_wp2_with fail
  go_ret
  exact ⟨A, n2, c2, rfl, HO.out.lower (by simp [go_sem]), by exact extX⟩

/-! Polynomials out of numbers: the reference's first ones. -/
theorem OwI.freshP {w : World} (x : Int) : OwI (w.alloc (.cells #[.int .i64 x] 2)) w.heap.size (some ⟨w.heap.size, 0, none⟩) 1 1 [x] :=
  ⟨by simp, by simp, .inr ⟨w.heap.size, 1, _, rfl, Nat.le_refl _, heap_alloc_new w _, Nat.le_refl _, by unfold maxLen; omega, by simp, by simp⟩⟩
theorem RI.window {w : World} {b o N p m : Nat} {xs : List Int} (h : RI w (some ⟨b, o, none⟩) N xs) (hp : p + m ≤ N) : RI w (some ⟨b, o + p, none⟩) m ((xs.drop p).take m) := by
  have hl := h.len
  refine ⟨⟨by rw [List.length_take, List.length_drop]; omega, by have := h.le; omega⟩, fun h0 => ?_⟩
  obtain ⟨b', o', e, hc⟩ := h.2 (by omega)
  cases e
  refine ⟨b, o + p, rfl, fun j x hx => ?_⟩
  have hj : j < m := by
    have := (List.getElem?_eq_some_iff.1 hx).1
    rw [List.length_take] at this; omega
  rw [List.getElem?_take, if_pos hj, List.getElem?_drop] at hx
  rw [Nat.add_assoc]
  exact hc (p + j) x hx
theorem RI.windowE {w : World} {A : Option Addr} {p m : Nat} {xs : List Int} (hm : m = 0) : RI w A 0 ((xs.drop p).take m) := by
  subst hm
  rw [List.take_zero]
  exact RI.nil _ _
/-- One polynomial is appended to a row of the call's own: its factors lie in a block of their own, the new one's cells behind all. -/
theorem wp_append_poly {P : Program} {w1 : World} {o : Oper} {a : Act} {K : Act → World → Prop} {Q : Exit → Act → World → Prop} (s x : Operand) (t : TypeId)
    (ho : o.op = .call { callee := .builtin .append, args := #[s, x], argTypes := #[t, t] }) (i : TypeInfo) (ht : P.underlying t = some (.slice 90)) (hi : P.info? 90 = some i) (hz : i.zero = some (.agg #[.int .i64 0, .slice none 0 0]))
    (hsize : i.size = 2) (hby : i.bytes = 32) {B top k c m d q : Nat} {A C : Option Addr} {fs : List Pl} {x0 : Int} {xs : List Int} (hs : a.eval s = .slice A k c) (hO : OwD w1 B top A k c fs) (hq : q = w1.heap.size) (hx : a.eval x = .slice (some ⟨q, 0, none⟩) 1 1) (hC : OwI w1 top C m d xs)
    (hk : k + 1 ≤ 1000) (hB : B ≤ top) (htw : top ≤ w1.heap.size) (hfar : ∀ b, (Value.slice A k c).ownBlock = some b → b < top)
    (hK : ∀ A' c' w', OwD w' B w'.heap.size A' (k + 1) c' (fs ++ [⟨x0, xs⟩]) → (∀ w0, Ext w0 w1 → w0.heap.size ≤ B → Ext w0 w') → K (a.put o.dst (.slice A' (k + 1) c')) w') :
    o.wp P a (w1.alloc (.cells #[.int .i64 x0, .slice C m d] 90)) K Q := by
  subst hq
  obtain ⟨⟨hn9, hl9⟩, vs, ho9, hf9, hd9⟩ := hO.ext ((Ext.refl w1).alloc (.cells #[.int .i64 x0, .slice C m d] 90))
  have hml := hC.len
  refine wp_append_lies _ s x t ho B 90 i (.agg #[.int .i64 0, .slice none 0 0]) 2 32 ht hi hz hsize hby rfl (by decide) _ k vs hs ho9 ⟨w1.heap.size, 0, none⟩ 1 1 [.int .i64 x0, .slice C m d] hx rfl (two_cells' (by simp [go_sem]) _ _ _) (two_one _ _ _ _) (by decide) (by unfold maxLen; omega) (by omega) (by simp only [World.size_alloc]; omega) _ rfl (fun g cap wx hown hg hat hltg => ?_)
  have hsz := hg.size
  simp only [World.size_alloc] at hsz
  refine hK _ _ wx (OwD.push (f := ⟨x0, xs⟩) (top' := wx.heap.size) (A' := C) (c' := d) hO (by omega) (by rw [hml]; exact hC.lower hB) (fun b o s e => ⟨(hC.bd b o s e).1, by have := (hC.bd b o s e).2; omega⟩) (by omega) (fun b o s e e2 => by have h1 := (hC.bd b o s e).1; have h2 := hfar b e2; omega)
    (fun us hu => by have e := ownsRow_uniq (World.ownsRow.alloc hu (.cells #[.int .i64 x0, .slice C m d] 90)) ho9; subst e; rw [hml]; exact hown) hg hat) (fun w0 h0 hb0 => Ext.grown (h0.alloc _) hg (fun b hb => by have := (hO.ob b hb).1; omega))
set_option maxRecDepth 100000 in
set_option maxHeartbeats 4000000 in
theorem c_l16Least {v0 : Value} {ar : List Int} {w : World} (h0 : RdSig w v0 ar) (h8 : ar.length ≤ 8) (h3 : ∀ n ∈ ar, 0 ≤ n ∧ n ≤ 3) : Calls Try.prog 50 #[v0, .int .i64 1] w (NewI w (lowL ar)) := by
  obtain ⟨A0, n0, c0, rfl, ha⟩ := h0
  have hn0 := ha.len
  have HA := Lib.hid ha
  have HS := Lib.hid h3
  obtain ⟨i0, hii, hiz, his, hib⟩ := info_parts int64_info
  have hof : ∀ k, offs (ar.take k) ≤ 32 := fun k => by have := offs_bd h3; have := offs_le ar k; omega
  clear ha h3
  go_enter Try.func50, Try.ntmps50
  go_wp2_with fail
  obtain ⟨wb, hwb⟩ : ∃ wb, wb = w.alloc (.cells #[.slice A0 n0 c0] 31) := ⟨_, rfl⟩
  have hs0 : wb.cell? ⟨w.heap.size, 0, none⟩ = some (.slice A0 n0 c0) := by rw [hwb]; simp [go_sem]
  have hbs : wb.heap.size = w.heap.size + 1 := by rw [hwb]; simp [go_sem]
  have hEwb : Ext w wb := by rw [hwb]; exact extX
  have HO0 := Lib.hid (OwI.none0 (w := wb) (D := w.heap.size + 1) (by omega))
  rw [← hwb]
  clear hwb
  go_loopw [5, 6] (fun ov iv wr => ∃ k : Nat, iv = .int .i64 k ∧ k ≤ n0 ∧ (∃ A c, ov = .slice A (offs (ar.take k)) c ∧ Hid (OwI wr (w.heap.size + 1) A (offs (ar.take k)) c (lowL (ar.take k)))) ∧ Hid (Ext wb wr)) (fun _ iv _ => n0 - (intOf iv).toNat)
  case atStart => exact ⟨0, rfl, Nat.zero_le _, ⟨_, 0, by first | rfl | simp [offs, go_sem, hbs], Lib.hid (by first | exact HO0.out | (simpa [offs, lowL, hbs] using HO0.out))⟩, Lib.hid ((Ext.refl wb).alloc _)⟩
  case round =>
    obtain ⟨k, rfl, hk, ⟨A, c, rfl, hO⟩, hE⟩ := hrel
    have hr0 := Ext.keep hE.out hs0
    have hEr := Ext.trans hEwb hE.out
    by_cases hlt : k < n0
    · obtain ⟨b, o, z, rfl, hz, hcz⟩ := RI.at_ (RI.ext HA.out hEr) hlt
      have hzb := HS.out z (List.mem_of_getElem? hz)
      obtain ⟨m, rfl⟩ := Int.eq_ofNat_of_zero_le hzb.1
      have hm3 : m ≤ 3 := by omega
      have HZ := Lib.hid hz
      have hki : (k : Int) < (n0 : Int) := by omega
      have hk0 : (0 : Int) ≤ (k : Int) := by omega
      have hofk := hof k
      obtain ⟨p, hp⟩ : ∃ p, p = offs (ar.take k) := ⟨_, rfl⟩
      rw [← hp] at hO hofk ⊢
      have HPP := Lib.hid hp
      have hsr := hE.out.size
      have HF := Lib.hid (OwI.freshP (w := wr) 0).ri
      have hcp := hO.out.cap
      have hob := hO.out.ob2
      clear hz hp
      go_wp2_with (at_builtin; go_loud (refine wpList_append_ints rfl (.tmp 16) (.tmp 17) 22 rfl i0 Try.underlying22 hii hiz his hib (D := w.heap.size + 1) rfl (OwI.alloc hO.out _) rfl (show RI (wr.alloc (.cells #[.int .i64 0] 2)) (some ⟨wr.heap.size, 0, none⟩) 1 [0] from HF.out) (by omega) (by simp only [World.size_alloc]; omega) hcp.1 ?_))
      intro A1 c1 w1 hO1 hg1 hat1
      have hE1 : Ext wb w1 := Ext.grown (hE.out.alloc _) hg1 (fun b hb => by have := (hob b hb).1; omega)
      have HO1 := Lib.hid hO1
      clear hO1 hg1 hat1 hob HF hcp
      go_wp2_with fail
      go_loopw [5, 7] (fun ov jv wi => ∃ j : Nat, jv = .int .i64 j ∧ j ≤ m ∧ (∃ A c, ov = .slice A (p + 1 + j) c ∧ Hid (OwI wi (w.heap.size + 1) A (p + 1 + j) c (lowL (ar.take k) ++ (0 :: List.replicate j 1)))) ∧ Hid (Ext wb wi)) (fun _ jv _ => m - (intOf jv).toNat)
      case atStart => exact ⟨0, rfl, Nat.zero_le _, ⟨_, _, rfl, Lib.hid (by simpa using HO1.out)⟩, Lib.hid hE1⟩
      case round =>
        obtain ⟨j, rfl, hj, ⟨A2, c2, rfl, hO2⟩, hE2⟩ := hrel
        have hi0 := Ext.keep hE2.out hs0
        obtain ⟨b', o', z', e', hz', hcz'⟩ := RI.at_ (RI.ext HA.out (Ext.trans hEwb hE2.out)) hlt
        cases e'
        rw [HZ.out] at hz'
        cases hz'
        by_cases hjm : j < m
        · have hjmi : (j : Int) < (m : Int) := by omega
          have hsi := hE2.out.size
          have HF := Lib.hid (OwI.freshP (w := wr) 1).ri
          have hcp := hO2.out.cap
          have hob := hO2.out.ob2
          go_wp2_with (at_builtin; go_loud (refine wpList_append_ints rfl (.tmp 28) (.tmp 30) 22 rfl i0 Try.underlying22 hii hiz his hib (D := w.heap.size + 1) rfl (OwI.alloc hO2.out _) rfl (show RI (wr.alloc (.cells #[.int .i64 1] 2)) (some ⟨wr.heap.size, 0, none⟩) 1 [1] from HF.out) (by omega) (by simp only [World.size_alloc]; omega) hcp.1 ?_))
          intro A3 c3 w3 hO3 hg3 hat3
          have hE3 : Ext wb w3 := Ext.grown (hE2.out.alloc _) hg3 (fun b hb => by have := (hob b hb).1; omega)
          have HO3 := Lib.hid (show OwI w3 (w.heap.size + 1) A3 (p + 1 + (j + 1)) c3 (lowL (ar.take k) ++ (0 :: List.replicate (j + 1) 1)) from by
            rw [List.replicate_succ']; exact hO3)
          clear hO3 hg3 hat3 hob HF hcp
          go_wp2
          go_roundw
          case rel => exact ⟨j + 1, by go_num, by omega, ⟨_, _, rfl, HO3⟩, Lib.hid hE3⟩
          case measure => simp only [intOf]; omega
        · obtain rfl : j = m := by omega
          have HN := Lib.hid (show OwI wr (w.heap.size + 1) A2 (offs (ar.take (k + 1))) c2 (lowL (ar.take (k + 1))) from by
            rw [offs_succ HZ.out, lowL_succ HZ.out, ← HPP.out, Int.toNat_natCast, show p + (j + 1) = p + 1 + j by omega]; exact hO2.out)
          have hlen : offs (ar.take (k + 1)) = p + 1 + j := by rw [offs_succ HZ.out, ← HPP.out, Int.toNat_natCast]; omega
          go_wp2
          go_roundw
          case rel => exact ⟨k + 1, by go_num, by omega, ⟨A2, c2, by rw [hlen], HN⟩, hE2⟩
          case measure => simp only [intOf]; omega
    · obtain rfl : k = n0 := by omega
      have HT := Lib.hid (show ar.take k = ar from List.take_of_length_le (by omega))
      go_wp2
      go_ret
      exact ⟨A, _, c, rfl, by have h := hO.out.lower (B' := w.heap.size) (by omega); rwa [HT.out] at h ⊢, hEr⟩
set_option maxRecDepth 100000 in
set_option maxHeartbeats 4000000 in
theorem c_l16Next {A L : Option Addr} {n c lc : Nat} {most : Int} {xs ls ys : List Int} {b : Bool} {w : World} (hu : up xs ls (List.replicate n most) = (ys, b)) (h0 : RI w A n xs) (h1 : RI w L n ls) (hbt : Btw xs ls (List.replicate n most)) (hm : 1 ≤ most ∧ most ≤ 3) (hlow : ∀ (k : Nat) (l : Int), ls[k]? = some l → -1000000 ≤ l) :
    Calls Try.prog 54 #[.slice A n c, .slice L n lc, .int .i64 most] w fun e w' => ∃ A' c', e = .returned (.tuple #[.slice A' n c', .bool b]) ∧ OwI w' w.heap.size A' n c' ys ∧ Ext w w' := by
  have hn := h0.le
  have hxl := h0.len
  have hll := h1.len
  have H0 := Lib.hid h0
  have HL := Lib.hid h1
  have HU := Lib.hid hu
  have HBT := Lib.hid hbt
  have HLOW := Lib.hid hlow
  have hhl : (List.replicate n most).length = n := List.length_replicate
  clear h0 h1 hu hbt hlow
  go_enter Try.func54, Try.ntmps54
  go_wp2_with fail
  (with_reducible refine (c_l1Copy H0.out).mono ?_)
  rintro e w2 ⟨A2, n2, c2, rfl, hO2, hE2⟩
  obtain rfl : n2 = n := by have := hO2.len; omega
  have HO2 := Lib.hid hO2
  clear hO2
  go_wp2_with fail
  go_loopw [9] (fun i wr => ∃ j : Nat, i = .int .i64 ((j : Int) - 1) ∧ j ≤ n2 ∧ Hid (OwI wr w.heap.size A2 n2 c2 (xs.take j ++ ls.drop j) ∧ up (xs.drop j) (ls.drop j) ((List.replicate n2 most).drop j) = (ls.drop j, false)) ∧ Hid (Ext w wr)) (fun i _ => (intOf i + 1).toNat)
  case atStart => exact ⟨n2, by go_num, Nat.le_refl _, Lib.hid ⟨by rw [List.take_of_length_le (by omega), List.drop_of_length_le (by omega), List.append_nil]; exact HO2.out, by rw [List.drop_of_length_le (by omega), List.drop_of_length_le (by omega), List.drop_of_length_le (by omega)]; rfl⟩, Lib.hid hE2⟩
  case round =>
    obtain ⟨j1, rfl, hj1, hO, hG⟩ := hrel
    rcases Nat.eq_zero_or_pos j1 with hz | hz
    · subst hz
      have hz0 : ¬ ((0 : Nat) : Int) - 1 ≥ 0 := by omega
      have HE := Lib.hid (show ys = ls ∧ b = false by
        have h3 := hO.out.2
        rw [List.drop_zero, List.drop_zero, List.drop_zero, HU.out] at h3
        cases h3; exact ⟨rfl, rfl⟩)
      have HO := Lib.hid (show OwI wr w.heap.size A2 n2 c2 ls by have := hO.out.1; simpa using this)
      go_wp2
      rw [HE.out.1, HE.out.2]
      refine bodyPost_ret (v := .tuple #[.slice A2 n2 c2, .bool false]) (by simp [results, Try.results54, go_sem]) rfl ?_
      exact ⟨A2, c2, rfl, HO.out, hG.out⟩
    · obtain ⟨j, rfl⟩ : ∃ j, j1 = j + 1 := ⟨j1 - 1, by omega⟩
      have hji : (((j + 1 : Nat) : Int)) - 1 = (j : Int) := by omega
      rw [hji]
      have hjn : j < n2 := by omega
      obtain ⟨g, rfl, hgB, _⟩ : ∃ g, A2 = some ⟨g, 0, none⟩ ∧ w.heap.size ≤ g ∧ g < wr.heap.size := by
        rcases hO.out.1.form with ⟨_, h0, _⟩ | h
        · omega
        · exact h
      obtain ⟨x, hx⟩ : ∃ x, xs[j]? = some x := ⟨_, List.getElem?_eq_getElem (by omega)⟩
      obtain ⟨l, h, hl, hh, hlx, hxh⟩ := HBT.out.at_ hx
      obtain ⟨x', hx', hcx, hfx⟩ := OwI.at_ hO.out.1 hjn
      rw [up_get hx] at hx'; cases hx'
      obtain ⟨bl, ol, l', rfl, hl', hcl⟩ := RI.at_ (RI.ext HL.out hG.out) hjn
      rw [hl] at hl'; cases hl'
      have hhm : h = most := by rw [List.getElem?_replicate, if_pos hjn] at hh; cases hh; rfl
      subst hhm
      have HXJ := Lib.hid hx
      have HLJ := Lib.hid hl
      have HHJ := Lib.hid hh
      have hj0 : (0 : Int) ≤ (j : Int) := by omega
      have hjd : decide ((0 : Int) ≤ (j : Int)) = true := by simp
      have hjni : (j : Int) < (n2 : Int) := by omega
      have hgl : g < wr.heap.size := World.block_lt_of_cell? wr _ hcx
      clear hl hh hx
      by_cases hxh2 : x < h
      · have hd2 : decide (x < h) = true := by simpa using hxh2
        have HE := Lib.hid (show ys = xs.take j ++ (x + 1) :: ls.drop (j + 1) ∧ b = true by
          have h3 := up_at (by omega) (by omega) HXJ.out HHJ.out hxh2 hO.out.2
          rw [HU.out] at h3
          cases h3; exact ⟨rfl, rfl⟩)
        have hxl0 : -1000000 ≤ x := by
          rcases Int.lt_or_le x (-1000000) with h5 | h5
          · exact absurd HLOW.out (by intro h6; have := h6 j l HLJ.out; omega)
          · exact h5
        have hw1 : IntKind.i64.wrap (x + 1) = x + 1 := IntWalk.i64_in _ (by omega)
        have HN := Lib.hid (show OwI (wr.setCell ⟨g, j, none⟩ (.int .i64 (x + 1))) w.heap.size (some ⟨g, 0, none⟩) n2 c2 (xs.take j ++ (x + 1) :: ls.drop (j + 1)) by rw [← up_mid2 (x + 1) HXJ.out]; exact OwI.set hO.out.1 j (x + 1))
        have HG := Lib.hid (Ext.set hG.out (show w.heap.size ≤ (⟨g, j, none⟩ : Addr).block from hgB) (.int .i64 (x + 1)))
        go_wp2
        rw [HE.out.1, HE.out.2]
        refine bodyPost_ret (v := .tuple #[.slice (some ⟨g, 0, none⟩) n2 c2, .bool true]) (by simp [results, Try.results54, go_sem]) rfl ?_
        exact ⟨_, c2, rfl, HN.out, HG.out⟩
      · have hd2 : decide (x < h) = false := by simpa using hxh2
        have HB := Lib.hid (up_back HXJ.out HLJ.out HHJ.out hxh2 hO.out.2)
        have HN := Lib.hid (show OwI (wr.setCell ⟨g, j, none⟩ (.int .i64 l)) w.heap.size (some ⟨g, 0, none⟩) n2 c2 (xs.take j ++ ls.drop j) by rw [← up_mid (by omega) HLJ.out]; exact OwI.set hO.out.1 j l)
        have HG := Lib.hid (Ext.set hG.out (show w.heap.size ≤ (⟨g, j, none⟩ : Addr).block from hgB) (.int .i64 l))
        go_wp2
        go_roundw
        case rel => exact ⟨j, by go_num, by omega, Lib.hid ⟨HN.out, HB.out⟩, HG⟩
        case measure => simp only [intOf]; omega
set_option maxRecDepth 100000 in
set_option maxHeartbeats 4000000 in
theorem c_l16Polys {v0 : Value} {XA : Option Addr} {N xc : Nat} {ar xs : List Int} {w : World} (h0 : RdSig w v0 ar) (h8 : ar.length ≤ 8) (h3 : ∀ n ∈ ar, 0 ≤ n ∧ n ≤ 3) (hx : RI w XA N xs) (hN : N = offs ar) (hcx : N ≤ xc ∧ xc ≤ 9223372036854775807) :
    Calls Try.prog 52 #[v0, .slice XA N xc] w (NewSz w (polysOf ar xs)) := by
  obtain ⟨A0, n0, c0, rfl, ha⟩ := h0
  have hn0 := ha.len
  have HA := Lib.hid ha
  have HS := Lib.hid h3
  have HX := Lib.hid hx
  have hxl := hx.len
  obtain ⟨i1, hji, hjz, hjs, hjb⟩ := info_parts polys_info'
  have hN32 : N ≤ 32 := by have := offs_bd h3; omega
  have HNN := Lib.hid hN
  clear ha h3 hx hN
  go_enter Try.func52, Try.ntmps52
  go_wp2_with fail
  obtain ⟨wb, hwb⟩ : ∃ wb, wb = w.alloc (.cells #[.slice A0 n0 c0] 31) := ⟨_, rfl⟩
  have hs0 : wb.cell? ⟨w.heap.size, 0, none⟩ = some (.slice A0 n0 c0) := by rw [hwb]; simp [go_sem]
  have hbs : wb.heap.size = w.heap.size + 1 := by rw [hwb]; simp [go_sem]
  have HEwb := Lib.hid (show Ext w wb by rw [hwb]; exact extX)
  have HO0 := Lib.hid (OwD.none0 (w := wb) (B := w.heap.size + 1) (top := wb.heap.size) (by omega))
  rw [← hwb]
  clear hwb
  go_loopw [5, 6, 7] (fun ov av fv wr => ∃ k : Nat, fv = .int .i64 k ∧ k ≤ n0 ∧ av = .int .i64 (offs (ar.take k) : Int) ∧ (∃ A c, ov = .slice A k c ∧ Hid (OwD wr (w.heap.size + 1) wr.heap.size A k c (polysOf (ar.take k) xs) ∧ ∀ b, (Value.slice A k c).ownBlock = some b → b < wr.heap.size)) ∧ Hid (Ext wb wr)) (fun _ _ fv _ => n0 - (intOf fv).toNat)
  case atStart => exact ⟨0, rfl, Nat.zero_le _, rfl, ⟨_, _, rfl, Lib.hid ⟨by have h := HO0.out.mono (top' := (wb.alloc (.cells #[] 90)).heap.size) (by simp); simpa [polysOf, hbs] using h, fun b hb => by cases hb; simp [go_sem]; omega⟩⟩, Lib.hid ((Ext.refl wb).alloc _)⟩
  case round =>
    obtain ⟨k, rfl, hk, rfl, ⟨A, c, rfl, hO⟩, hE⟩ := hrel
    have hr0 := Ext.keep hE.out hs0
    have HEr := Lib.hid (Ext.trans HEwb.out hE.out)
    by_cases hlt : k < n0
    · obtain ⟨b, o, z, rfl, hz, hczb⟩ := RI.at_ (RI.ext HA.out HEwb.out) hlt
      have hcz := Ext.keep hE.out hczb
      have hzb := HS.out z (List.mem_of_getElem? hz)
      obtain ⟨m, rfl⟩ := Int.eq_ofNat_of_zero_le hzb.1
      have hm3 : m ≤ 3 := by omega
      have hki : (k : Int) < (n0 : Int) := by omega
      have hk0 : (0 : Int) ≤ (k : Int) := by omega
      have hos := offs_succ hz
      have hle := offs_le ar (k + 1)
      rw [Int.toNat_natCast] at hos
      obtain ⟨p, hp⟩ : ∃ p, offs (ar.take k) = p := ⟨_, rfl⟩
      rw [hp] at hos ⊢
      have hNN := HNN.out
      have hpN : p < N := by omega
      obtain ⟨xb, xo, x0, rfl, hx0, hcxb⟩ := RI.at_ (RI.ext HX.out HEwb.out) hpN
      have hcx0 := Ext.keep hE.out hcxb
      have HPS := Lib.hid (show polysOf (ar.take (k + 1)) xs = polysOf (ar.take k) xs ++ [⟨x0, (xs.drop (p + 1)).take m⟩] from by
        rw [polysOf_succ hz, hp, Int.toNat_natCast]
        congr 3
        rw [List.getD_eq_getElem?_getD, hx0]; rfl)
      obtain ⟨p1, hp1⟩ : ∃ p1, p1 = p + 1 := ⟨_, rfl⟩
      obtain ⟨p2, hp2⟩ : ∃ p2, p2 = p + 1 + m := ⟨_, rfl⟩
      have hw1 : IntKind.i64.wrap ((p : Int) + 1) = (p1 : Int) := by rw [hp1]; exact (IntWalk.i64_in _ (by omega)).trans (by omega)
      have hw2 : IntKind.i64.wrap ((p1 : Int) + (m : Int)) = (p2 : Int) := by rw [hp1, hp2]; exact (IntWalk.i64_in _ (by omega)).trans (by omega)
      have hi1 : (p : Int) < (N : Int) := by omega
      have hi2 : p1 ≤ p2 := by omega
      have hi3 : p2 ≤ xc := by omega
      have hi2' : (p1 : Int) ≤ (p2 : Int) := by omega
      have hi3' : (p2 : Int) ≤ (xc : Int) := by omega
      have hpm : p2 - p1 = m := by omega
      have HPM := Lib.hid hpm
      have HP12 := Lib.hid (And.intro hp1 hp2)
      have HOS := Lib.hid hos
      have HZ := Lib.hid hz
      have hbl := World.block_lt_of_cell? wr _ hcz
      have hbl2 := World.block_lt_of_cell? wr _ hcx0
      have hbl3 := World.block_lt_of_cell? wr _ hr0
      have hN32' : p + 1 + m ≤ N := by omega
      have hsr := hE.out.size
      have hk9 : k + 1 ≤ 1000 := by omega
      clear hz hx0 hos hle hpm hp1 hp2 hNN
      by_cases hxc : xc = p1
      · subst hxc
        have HWN := Lib.hid (show RI wr (some ⟨xb, xo, none⟩) 0 ((xs.drop (p + 1)).take m) from by exact RI.windowE (by have := HPM.out; omega))
        go_wp2_with fail
        refine wp_only (R := fun (a0 : Act) (a8 : Act) (w9 : World) => ∃ (C : Option Addr) (cd : Nat) (q : Nat) (A6 : Option Addr) (c6 : Nat), a8 = ((((((((((((((((((((((a0.put (some 16) (.slice A k c)).put (some 17) (.slice (some ⟨xb, xo, none⟩) N xc)).put (some 18) (.int .i64 (p : Int))).put (some 19) (.pointer (some ⟨xb, xo + p, none⟩))).put (some 20) (.int .i64 x0)).put (some 21) (.slice (some ⟨xb, xo, none⟩) N xc)).put (some 22) (.int .i64 (p : Int))).put (some 23) (.int .i64 (xc : Int))).put (some 24) (.int .i64 (p : Int))).put (some 25) (.int .i64 (xc : Int))).put (some 26) (.pointer (some ⟨w.heap.size, 0, none⟩))).put (some 27) (.slice (some ⟨b, o, none⟩) n0 c0)).put (some 28) (.int .i64 (k : Int))).put (some 29) (.pointer (some ⟨b, o + k, none⟩))).put (some 30) (.int .i64 (m : Int))).put (some 31) (.int .i64 (p2 : Int))).put (some 32) (.slice (some ⟨xb, xo, none⟩) 0 0)).put (some 33) (.slice C m cd)).put (some 34) (.agg #[.int .i64 x0, .slice C m cd])).put (some 35) (.slice (some ⟨q, 0, none⟩) 1 1)).put (some 36) (.slice A6 (k + 1) c6)).put (some 5) (.slice A6 (k + 1) c6)) ∧ OwD w9 (w.heap.size + 1) w9.heap.size A6 (k + 1) c6 (polysOf (ar.take k) xs ++ [⟨x0, (xs.drop (p + 1)).take m⟩]) ∧ Ext wb w9) ?_ (fun a8 w7 hR => ?_)
        · refine wp_region_held_drew (S := (fun w' => Ext wb w')) (by kernel_rfl) (hE.out.drew) (fun hH => ?_)
          refine wpAnyH_take_dst (i := 0) (v := .slice A k c) (d := some 16) rfl rfl (by kernel_rfl) (by kernel_rfl) (by kernel_rfl) (fun _ _ _ h => h) (Or.inl ⟨by rfl, ?_⟩) hH ?_
          · (intro w' hE'; (try dsimp only at hE'); have y0 := Ext.keep hE' hs0; have y1 := Ext.keep hE' hczb; have y2 := Ext.keep hE' hcxb; go_simp; try with_reducible rfl)
          try simp only [Act.put, List.setIfInBounds_toArray, List.set_cons_zero, List.set_cons_succ]
          refine wpAnyH_take_dst (i := 1) (v := .slice (some ⟨xb, xo, none⟩) N xc) (d := some 17) rfl rfl (by kernel_rfl) (by kernel_rfl) (by kernel_rfl) (fun _ _ _ h => h) (Or.inl ⟨by rfl, ?_⟩) hH ?_
          · (intro w' hE'; (try dsimp only at hE'); have y0 := Ext.keep hE' hs0; have y1 := Ext.keep hE' hczb; have y2 := Ext.keep hE' hcxb; go_simp; try with_reducible rfl)
          try simp only [Act.put, List.setIfInBounds_toArray, List.set_cons_zero, List.set_cons_succ]
          refine wpAnyH_take_dst (i := 2) (v := .int .i64 (p : Int)) (d := some 18) rfl rfl (by kernel_rfl) (by kernel_rfl) (by kernel_rfl) (fun _ _ _ h => h) (Or.inl ⟨by rfl, ?_⟩) hH ?_
          · (intro w' hE'; (try dsimp only at hE'); have y0 := Ext.keep hE' hs0; have y1 := Ext.keep hE' hczb; have y2 := Ext.keep hE' hcxb; go_simp; try with_reducible rfl)
          try simp only [Act.put, List.setIfInBounds_toArray, List.set_cons_zero, List.set_cons_succ]
          refine wpAnyH_take_dst (i := 3) (v := .pointer (some ⟨xb, xo + p, none⟩)) (d := some 19) rfl rfl (by kernel_rfl) (by kernel_rfl) (by kernel_rfl) (fun _ _ _ h => h) (Or.inl ⟨by rfl, ?_⟩) hH ?_
          · (intro w' hE'; (try dsimp only at hE'); have y0 := Ext.keep hE' hs0; have y1 := Ext.keep hE' hczb; have y2 := Ext.keep hE' hcxb; go_simp; try with_reducible rfl)
          try simp only [Act.put, List.setIfInBounds_toArray, List.set_cons_zero, List.set_cons_succ]
          refine wpAnyH_take_dst (i := 4) (v := .int .i64 x0) (d := some 20) rfl rfl (by kernel_rfl) (by kernel_rfl) (by kernel_rfl) (fun _ _ _ h => h) (Or.inl ⟨by rfl, ?_⟩) hH ?_
          · (intro w' hE'; (try dsimp only at hE'); have y0 := Ext.keep hE' hs0; have y1 := Ext.keep hE' hczb; have y2 := Ext.keep hE' hcxb; go_simp; try with_reducible rfl)
          try simp only [Act.put, List.setIfInBounds_toArray, List.set_cons_zero, List.set_cons_succ]
          refine wpAnyH_take_dst (i := 5) (v := .slice (some ⟨xb, xo, none⟩) N xc) (d := some 21) rfl rfl (by kernel_rfl) (by kernel_rfl) (by kernel_rfl) (fun _ _ _ h => h) (Or.inl ⟨by rfl, ?_⟩) hH ?_
          · (intro w' hE'; (try dsimp only at hE'); have y0 := Ext.keep hE' hs0; have y1 := Ext.keep hE' hczb; have y2 := Ext.keep hE' hcxb; go_simp; try with_reducible rfl)
          try simp only [Act.put, List.setIfInBounds_toArray, List.set_cons_zero, List.set_cons_succ]
          refine wpAnyH_take_dst (i := 6) (v := .int .i64 (p : Int)) (d := some 22) rfl rfl (by kernel_rfl) (by kernel_rfl) (by kernel_rfl) (fun _ _ _ h => h) (Or.inl ⟨by rfl, ?_⟩) hH ?_
          · (intro w' hE'; (try dsimp only at hE'); have y0 := Ext.keep hE' hs0; have y1 := Ext.keep hE' hczb; have y2 := Ext.keep hE' hcxb; go_simp; try with_reducible rfl)
          try simp only [Act.put, List.setIfInBounds_toArray, List.set_cons_zero, List.set_cons_succ]
          refine wpAnyH_take_dst (i := 7) (v := .int .i64 (xc : Int)) (d := some 23) rfl rfl (by kernel_rfl) (by kernel_rfl) (by kernel_rfl) (fun _ _ _ h => h) (Or.inl ⟨by rfl, ?_⟩) hH ?_
          · (intro w' hE'; (try dsimp only at hE'); have y0 := Ext.keep hE' hs0; have y1 := Ext.keep hE' hczb; have y2 := Ext.keep hE' hcxb; go_simp; try with_reducible rfl)
          try simp only [Act.put, List.setIfInBounds_toArray, List.set_cons_zero, List.set_cons_succ]
          refine wpAnyH_take_dst (i := 8) (v := .int .i64 (p : Int)) (d := some 24) rfl rfl (by kernel_rfl) (by kernel_rfl) (by kernel_rfl) (fun _ _ _ h => h) (Or.inl ⟨by rfl, ?_⟩) hH ?_
          · (intro w' hE'; (try dsimp only at hE'); have y0 := Ext.keep hE' hs0; have y1 := Ext.keep hE' hczb; have y2 := Ext.keep hE' hcxb; go_simp; try with_reducible rfl)
          try simp only [Act.put, List.setIfInBounds_toArray, List.set_cons_zero, List.set_cons_succ]
          refine wpAnyH_take_dst (i := 9) (v := .int .i64 (xc : Int)) (d := some 25) rfl rfl (by kernel_rfl) (by kernel_rfl) (by kernel_rfl) (fun _ _ _ h => h) (Or.inl ⟨by rfl, ?_⟩) hH ?_
          · (intro w' hE'; (try dsimp only at hE'); have y0 := Ext.keep hE' hs0; have y1 := Ext.keep hE' hczb; have y2 := Ext.keep hE' hcxb; go_simp; try with_reducible rfl)
          try simp only [Act.put, List.setIfInBounds_toArray, List.set_cons_zero, List.set_cons_succ]
          refine wpAnyH_take_dst (i := 10) (v := .pointer (some ⟨w.heap.size, 0, none⟩)) (d := some 26) rfl rfl (by kernel_rfl) (by kernel_rfl) (by kernel_rfl) (fun _ _ _ h => h) (Or.inl ⟨by rfl, ?_⟩) hH ?_
          · (intro w' hE'; (try dsimp only at hE'); have y0 := Ext.keep hE' hs0; have y1 := Ext.keep hE' hczb; have y2 := Ext.keep hE' hcxb; go_simp; try with_reducible rfl)
          try simp only [Act.put, List.setIfInBounds_toArray, List.set_cons_zero, List.set_cons_succ]
          refine wpAnyH_take_dst (i := 11) (v := .slice (some ⟨b, o, none⟩) n0 c0) (d := some 27) rfl rfl (by kernel_rfl) (by kernel_rfl) (by kernel_rfl) (fun _ _ _ h => h) (Or.inl ⟨by rfl, ?_⟩) hH ?_
          · (intro w' hE'; (try dsimp only at hE'); have y0 := Ext.keep hE' hs0; have y1 := Ext.keep hE' hczb; have y2 := Ext.keep hE' hcxb; go_simp; try with_reducible rfl)
          try simp only [Act.put, List.setIfInBounds_toArray, List.set_cons_zero, List.set_cons_succ]
          refine wpAnyH_take_dst (i := 12) (v := .int .i64 (k : Int)) (d := some 28) rfl rfl (by kernel_rfl) (by kernel_rfl) (by kernel_rfl) (fun _ _ _ h => h) (Or.inl ⟨by rfl, ?_⟩) hH ?_
          · (intro w' hE'; (try dsimp only at hE'); have y0 := Ext.keep hE' hs0; have y1 := Ext.keep hE' hczb; have y2 := Ext.keep hE' hcxb; go_simp; try with_reducible rfl)
          try simp only [Act.put, List.setIfInBounds_toArray, List.set_cons_zero, List.set_cons_succ]
          refine wpAnyH_take_dst (i := 13) (v := .pointer (some ⟨b, o + k, none⟩)) (d := some 29) rfl rfl (by kernel_rfl) (by kernel_rfl) (by kernel_rfl) (fun _ _ _ h => h) (Or.inl ⟨by rfl, ?_⟩) hH ?_
          · (intro w' hE'; (try dsimp only at hE'); have y0 := Ext.keep hE' hs0; have y1 := Ext.keep hE' hczb; have y2 := Ext.keep hE' hcxb; go_simp; try with_reducible rfl)
          try simp only [Act.put, List.setIfInBounds_toArray, List.set_cons_zero, List.set_cons_succ]
          refine wpAnyH_take_dst (i := 14) (v := .int .i64 (m : Int)) (d := some 30) rfl rfl (by kernel_rfl) (by kernel_rfl) (by kernel_rfl) (fun _ _ _ h => h) (Or.inl ⟨by rfl, ?_⟩) hH ?_
          · (intro w' hE'; (try dsimp only at hE'); have y0 := Ext.keep hE' hs0; have y1 := Ext.keep hE' hczb; have y2 := Ext.keep hE' hcxb; go_simp; try with_reducible rfl)
          try simp only [Act.put, List.setIfInBounds_toArray, List.set_cons_zero, List.set_cons_succ]
          refine wpAnyH_take_dst (i := 15) (v := .int .i64 (p2 : Int)) (d := some 31) rfl rfl (by kernel_rfl) (by kernel_rfl) (by kernel_rfl) (fun _ _ _ h => h) (Or.inl ⟨by rfl, ?_⟩) hH ?_
          · (intro w' hE'; (try dsimp only at hE'); have y0 := Ext.keep hE' hs0; have y1 := Ext.keep hE' hczb; have y2 := Ext.keep hE' hcxb; go_simp; try with_reducible rfl)
          try simp only [Act.put, List.setIfInBounds_toArray, List.set_cons_zero, List.set_cons_succ]
          refine wpAnyH_take_dst (i := 16) (v := .slice (some ⟨xb, xo, none⟩) 0 0) (d := some 32) rfl rfl (by kernel_rfl) (by kernel_rfl) (by kernel_rfl) (fun _ _ _ h => h) (Or.inl ⟨by rfl, ?_⟩) hH ?_
          · (intro w' hE'; (try dsimp only at hE'); have y0 := Ext.keep hE' hs0; have y1 := Ext.keep hE' hczb; have y2 := Ext.keep hE' hcxb; go_simp; try with_reducible rfl)
          try simp only [Act.put, List.setIfInBounds_toArray, List.set_cons_zero, List.set_cons_succ]
          refine wpAnyH_ready (rs := [17]) (by kernel_rfl) (by simp) ?_
          refine AllReadyH.cons rfl (fun K hK => ?_) AllReadyH.nil
          rw [if_pos (by rfl)]
          go_wp2_with fail; (with_reducible refine (c_l1Copy (RI.ext HWN.out (Ext.refl wr).drew)).mono ?_); rintro e w9 ⟨C, cm, cd, rfl, hC, hE9⟩; obtain rfl : m = cm := by { have h7 := hC.len; have h8 := HWN.out.len; have h9 := HPM.out; omega }; have hC9 := hC; have hE99 := Ext.trans (Ext.refl wr).drew hE9
          refine hK.out _ _ (Ext.trans hH hE9) (fun hH9 => ?_)
          clear hK; have hH0 := hH; clear hH; have hH := hH9; clear hH9
          try simp only [Act.put, List.setIfInBounds_toArray, List.set_cons_zero, List.set_cons_succ]
          refine wpAnyH_take_dst (i := 18) (v := .agg #[.int .i64 x0, .slice C m cd]) (d := some 34) rfl rfl (by kernel_rfl) (by kernel_rfl) (by kernel_rfl) (fun _ _ _ h => h) (Or.inl ⟨by rfl, ?_⟩) hH ?_
          · (intro w' hE'; (try dsimp only at hE'); have y0 := Ext.keep hE' hs0; have y1 := Ext.keep hE' hczb; have y2 := Ext.keep hE' hcxb; go_simp; try with_reducible rfl)
          try simp only [Act.put, List.setIfInBounds_toArray, List.set_cons_zero, List.set_cons_succ]
          refine wpAnyH_ready (rs := [19]) (by kernel_rfl) (by simp) ?_
          refine AllReadyH.cons rfl (fun K hK => ?_) AllReadyH.nil
          rw [if_pos (by rfl)]
          go_wp2_with fail
          refine hK.out _ _ (hH.alloc _) (fun hH9 => ?_)
          clear hK; have hH0 := hH; clear hH; have hH := hH9; clear hH9
          try simp only [Act.put, List.setIfInBounds_toArray, List.set_cons_zero, List.set_cons_succ]
          refine wpAnyH_ready (rs := [20]) (by kernel_rfl) (by simp) ?_
          refine AllReadyH.cons rfl (fun K hK => ?_) AllReadyH.nil
          rw [if_pos (by rfl)]
          refine wp_append_poly (.tmp 16) (.tmp 35) 41 rfl i1 Try.underlying41 hji hjz hjs hjb (B := w.heap.size + 1) (top := wr.heap.size) rfl (hO.out.1.ext hE99) rfl rfl hC9 hk9 (by omega) hE99.size hO.out.2 (fun A6 c6 w6 hO6 hx6 => ?_); have hE6 := hx6 wb (Ext.trans hE.out hE99) (by omega)
          refine hK.out _ _ (hE6) (fun hH9 => ?_)
          clear hK; have hH0 := hH; clear hH; have hH := hH9; clear hH9
          try simp only [Act.put, List.setIfInBounds_toArray, List.set_cons_zero, List.set_cons_succ]
          refine wpAnyH_take_dst (i := 21) (v := .slice A6 (k + 1) c6) (d := some 5) rfl rfl (by kernel_rfl) (by kernel_rfl) (by kernel_rfl) (fun _ _ _ h => h) (Or.inl ⟨by rfl, ?_⟩) hH ?_
          · (intro w' hE'; (try dsimp only at hE'); have y0 := Ext.keep hE' hs0; have y1 := Ext.keep hE' hczb; have y2 := Ext.keep hE' hcxb; go_simp; try with_reducible rfl)
          try simp only [Act.put, List.setIfInBounds_toArray, List.set_cons_zero, List.set_cons_succ]
          refine wpAnyH_done (by kernel_rfl) ?_ _
          exact ⟨C, cd, _, A6, c6, by rfl, hO6, hE6⟩
        obtain ⟨C, cd, q, A6, c6, ha, ⟨hO6, hE6⟩⟩ := hR
        simp only [Act.put, List.setIfInBounds_toArray, List.set_cons_zero, List.set_cons_succ] at ha
        subst ha
        have HO6 := Lib.hid hO6
        have HOB6 := Lib.hid hO6.ob
        have z0 := Ext.keep hE6 hs0
        have z1 := Ext.keep hE6 hczb
        clear hO6 hr0 hcz hcx0
        go_wp2
        go_roundw
        case rel => exact ⟨k + 1, by go_num, by omega, by rw [HOS.out]; exact congrArg _ (by have := HP12.out; omega), ⟨A6, c6, rfl, Lib.hid ⟨by rw [HPS.out]; exact HO6.out, fun b hb => (HOB6.out b hb).2⟩⟩, Lib.hid hE6⟩
        case measure => simp only [intOf]; omega
      · have hxd : decide (xc = p1) = false := by simpa using hxc
        have HWN := Lib.hid (show RI wr (some ⟨xb, xo + p1, none⟩) (p2 - p1) ((xs.drop (p + 1)).take m) from by rw [HPM.out, HP12.out.1]; exact RI.window (RI.ext HX.out HEr.out) (by omega))
        go_wp2_with fail
        refine wp_only (R := fun (a0 : Act) (a8 : Act) (w9 : World) => ∃ (C : Option Addr) (cd : Nat) (q : Nat) (A6 : Option Addr) (c6 : Nat), a8 = ((((((((((((((((((((((a0.put (some 16) (.slice A k c)).put (some 17) (.slice (some ⟨xb, xo, none⟩) N xc)).put (some 18) (.int .i64 (p : Int))).put (some 19) (.pointer (some ⟨xb, xo + p, none⟩))).put (some 20) (.int .i64 x0)).put (some 21) (.slice (some ⟨xb, xo, none⟩) N xc)).put (some 22) (.int .i64 (p : Int))).put (some 23) (.int .i64 (p1 : Int))).put (some 24) (.int .i64 (p : Int))).put (some 25) (.int .i64 (p1 : Int))).put (some 26) (.pointer (some ⟨w.heap.size, 0, none⟩))).put (some 27) (.slice (some ⟨b, o, none⟩) n0 c0)).put (some 28) (.int .i64 (k : Int))).put (some 29) (.pointer (some ⟨b, o + k, none⟩))).put (some 30) (.int .i64 (m : Int))).put (some 31) (.int .i64 (p2 : Int))).put (some 32) (.slice (some ⟨xb, xo + p1, none⟩) (p2 - p1) (xc - p1))).put (some 33) (.slice C m cd)).put (some 34) (.agg #[.int .i64 x0, .slice C m cd])).put (some 35) (.slice (some ⟨q, 0, none⟩) 1 1)).put (some 36) (.slice A6 (k + 1) c6)).put (some 5) (.slice A6 (k + 1) c6)) ∧ OwD w9 (w.heap.size + 1) w9.heap.size A6 (k + 1) c6 (polysOf (ar.take k) xs ++ [⟨x0, (xs.drop (p + 1)).take m⟩]) ∧ Ext wb w9) ?_ (fun a8 w7 hR => ?_)
        · refine wp_region_held_drew (S := (fun w' => Ext wb w')) (by kernel_rfl) (hE.out.drew) (fun hH => ?_)
          refine wpAnyH_take_dst (i := 0) (v := .slice A k c) (d := some 16) rfl rfl (by kernel_rfl) (by kernel_rfl) (by kernel_rfl) (fun _ _ _ h => h) (Or.inl ⟨by rfl, ?_⟩) hH ?_
          · (intro w' hE'; (try dsimp only at hE'); have y0 := Ext.keep hE' hs0; have y1 := Ext.keep hE' hczb; have y2 := Ext.keep hE' hcxb; go_simp; try with_reducible rfl)
          try simp only [Act.put, List.setIfInBounds_toArray, List.set_cons_zero, List.set_cons_succ]
          refine wpAnyH_take_dst (i := 1) (v := .slice (some ⟨xb, xo, none⟩) N xc) (d := some 17) rfl rfl (by kernel_rfl) (by kernel_rfl) (by kernel_rfl) (fun _ _ _ h => h) (Or.inl ⟨by rfl, ?_⟩) hH ?_
          · (intro w' hE'; (try dsimp only at hE'); have y0 := Ext.keep hE' hs0; have y1 := Ext.keep hE' hczb; have y2 := Ext.keep hE' hcxb; go_simp; try with_reducible rfl)
          try simp only [Act.put, List.setIfInBounds_toArray, List.set_cons_zero, List.set_cons_succ]
          refine wpAnyH_take_dst (i := 2) (v := .int .i64 (p : Int)) (d := some 18) rfl rfl (by kernel_rfl) (by kernel_rfl) (by kernel_rfl) (fun _ _ _ h => h) (Or.inl ⟨by rfl, ?_⟩) hH ?_
          · (intro w' hE'; (try dsimp only at hE'); have y0 := Ext.keep hE' hs0; have y1 := Ext.keep hE' hczb; have y2 := Ext.keep hE' hcxb; go_simp; try with_reducible rfl)
          try simp only [Act.put, List.setIfInBounds_toArray, List.set_cons_zero, List.set_cons_succ]
          refine wpAnyH_take_dst (i := 3) (v := .pointer (some ⟨xb, xo + p, none⟩)) (d := some 19) rfl rfl (by kernel_rfl) (by kernel_rfl) (by kernel_rfl) (fun _ _ _ h => h) (Or.inl ⟨by rfl, ?_⟩) hH ?_
          · (intro w' hE'; (try dsimp only at hE'); have y0 := Ext.keep hE' hs0; have y1 := Ext.keep hE' hczb; have y2 := Ext.keep hE' hcxb; go_simp; try with_reducible rfl)
          try simp only [Act.put, List.setIfInBounds_toArray, List.set_cons_zero, List.set_cons_succ]
          refine wpAnyH_take_dst (i := 4) (v := .int .i64 x0) (d := some 20) rfl rfl (by kernel_rfl) (by kernel_rfl) (by kernel_rfl) (fun _ _ _ h => h) (Or.inl ⟨by rfl, ?_⟩) hH ?_
          · (intro w' hE'; (try dsimp only at hE'); have y0 := Ext.keep hE' hs0; have y1 := Ext.keep hE' hczb; have y2 := Ext.keep hE' hcxb; go_simp; try with_reducible rfl)
          try simp only [Act.put, List.setIfInBounds_toArray, List.set_cons_zero, List.set_cons_succ]
          refine wpAnyH_take_dst (i := 5) (v := .slice (some ⟨xb, xo, none⟩) N xc) (d := some 21) rfl rfl (by kernel_rfl) (by kernel_rfl) (by kernel_rfl) (fun _ _ _ h => h) (Or.inl ⟨by rfl, ?_⟩) hH ?_
          · (intro w' hE'; (try dsimp only at hE'); have y0 := Ext.keep hE' hs0; have y1 := Ext.keep hE' hczb; have y2 := Ext.keep hE' hcxb; go_simp; try with_reducible rfl)
          try simp only [Act.put, List.setIfInBounds_toArray, List.set_cons_zero, List.set_cons_succ]
          refine wpAnyH_take_dst (i := 6) (v := .int .i64 (p : Int)) (d := some 22) rfl rfl (by kernel_rfl) (by kernel_rfl) (by kernel_rfl) (fun _ _ _ h => h) (Or.inl ⟨by rfl, ?_⟩) hH ?_
          · (intro w' hE'; (try dsimp only at hE'); have y0 := Ext.keep hE' hs0; have y1 := Ext.keep hE' hczb; have y2 := Ext.keep hE' hcxb; go_simp; try with_reducible rfl)
          try simp only [Act.put, List.setIfInBounds_toArray, List.set_cons_zero, List.set_cons_succ]
          refine wpAnyH_take_dst (i := 7) (v := .int .i64 (p1 : Int)) (d := some 23) rfl rfl (by kernel_rfl) (by kernel_rfl) (by kernel_rfl) (fun _ _ _ h => h) (Or.inl ⟨by rfl, ?_⟩) hH ?_
          · (intro w' hE'; (try dsimp only at hE'); have y0 := Ext.keep hE' hs0; have y1 := Ext.keep hE' hczb; have y2 := Ext.keep hE' hcxb; go_simp; try with_reducible rfl)
          try simp only [Act.put, List.setIfInBounds_toArray, List.set_cons_zero, List.set_cons_succ]
          refine wpAnyH_take_dst (i := 8) (v := .int .i64 (p : Int)) (d := some 24) rfl rfl (by kernel_rfl) (by kernel_rfl) (by kernel_rfl) (fun _ _ _ h => h) (Or.inl ⟨by rfl, ?_⟩) hH ?_
          · (intro w' hE'; (try dsimp only at hE'); have y0 := Ext.keep hE' hs0; have y1 := Ext.keep hE' hczb; have y2 := Ext.keep hE' hcxb; go_simp; try with_reducible rfl)
          try simp only [Act.put, List.setIfInBounds_toArray, List.set_cons_zero, List.set_cons_succ]
          refine wpAnyH_take_dst (i := 9) (v := .int .i64 (p1 : Int)) (d := some 25) rfl rfl (by kernel_rfl) (by kernel_rfl) (by kernel_rfl) (fun _ _ _ h => h) (Or.inl ⟨by rfl, ?_⟩) hH ?_
          · (intro w' hE'; (try dsimp only at hE'); have y0 := Ext.keep hE' hs0; have y1 := Ext.keep hE' hczb; have y2 := Ext.keep hE' hcxb; go_simp; try with_reducible rfl)
          try simp only [Act.put, List.setIfInBounds_toArray, List.set_cons_zero, List.set_cons_succ]
          refine wpAnyH_take_dst (i := 10) (v := .pointer (some ⟨w.heap.size, 0, none⟩)) (d := some 26) rfl rfl (by kernel_rfl) (by kernel_rfl) (by kernel_rfl) (fun _ _ _ h => h) (Or.inl ⟨by rfl, ?_⟩) hH ?_
          · (intro w' hE'; (try dsimp only at hE'); have y0 := Ext.keep hE' hs0; have y1 := Ext.keep hE' hczb; have y2 := Ext.keep hE' hcxb; go_simp; try with_reducible rfl)
          try simp only [Act.put, List.setIfInBounds_toArray, List.set_cons_zero, List.set_cons_succ]
          refine wpAnyH_take_dst (i := 11) (v := .slice (some ⟨b, o, none⟩) n0 c0) (d := some 27) rfl rfl (by kernel_rfl) (by kernel_rfl) (by kernel_rfl) (fun _ _ _ h => h) (Or.inl ⟨by rfl, ?_⟩) hH ?_
          · (intro w' hE'; (try dsimp only at hE'); have y0 := Ext.keep hE' hs0; have y1 := Ext.keep hE' hczb; have y2 := Ext.keep hE' hcxb; go_simp; try with_reducible rfl)
          try simp only [Act.put, List.setIfInBounds_toArray, List.set_cons_zero, List.set_cons_succ]
          refine wpAnyH_take_dst (i := 12) (v := .int .i64 (k : Int)) (d := some 28) rfl rfl (by kernel_rfl) (by kernel_rfl) (by kernel_rfl) (fun _ _ _ h => h) (Or.inl ⟨by rfl, ?_⟩) hH ?_
          · (intro w' hE'; (try dsimp only at hE'); have y0 := Ext.keep hE' hs0; have y1 := Ext.keep hE' hczb; have y2 := Ext.keep hE' hcxb; go_simp; try with_reducible rfl)
          try simp only [Act.put, List.setIfInBounds_toArray, List.set_cons_zero, List.set_cons_succ]
          refine wpAnyH_take_dst (i := 13) (v := .pointer (some ⟨b, o + k, none⟩)) (d := some 29) rfl rfl (by kernel_rfl) (by kernel_rfl) (by kernel_rfl) (fun _ _ _ h => h) (Or.inl ⟨by rfl, ?_⟩) hH ?_
          · (intro w' hE'; (try dsimp only at hE'); have y0 := Ext.keep hE' hs0; have y1 := Ext.keep hE' hczb; have y2 := Ext.keep hE' hcxb; go_simp; try with_reducible rfl)
          try simp only [Act.put, List.setIfInBounds_toArray, List.set_cons_zero, List.set_cons_succ]
          refine wpAnyH_take_dst (i := 14) (v := .int .i64 (m : Int)) (d := some 30) rfl rfl (by kernel_rfl) (by kernel_rfl) (by kernel_rfl) (fun _ _ _ h => h) (Or.inl ⟨by rfl, ?_⟩) hH ?_
          · (intro w' hE'; (try dsimp only at hE'); have y0 := Ext.keep hE' hs0; have y1 := Ext.keep hE' hczb; have y2 := Ext.keep hE' hcxb; go_simp; try with_reducible rfl)
          try simp only [Act.put, List.setIfInBounds_toArray, List.set_cons_zero, List.set_cons_succ]
          refine wpAnyH_take_dst (i := 15) (v := .int .i64 (p2 : Int)) (d := some 31) rfl rfl (by kernel_rfl) (by kernel_rfl) (by kernel_rfl) (fun _ _ _ h => h) (Or.inl ⟨by rfl, ?_⟩) hH ?_
          · (intro w' hE'; (try dsimp only at hE'); have y0 := Ext.keep hE' hs0; have y1 := Ext.keep hE' hczb; have y2 := Ext.keep hE' hcxb; go_simp; try with_reducible rfl)
          try simp only [Act.put, List.setIfInBounds_toArray, List.set_cons_zero, List.set_cons_succ]
          refine wpAnyH_take_dst (i := 16) (v := .slice (some ⟨xb, xo + p1, none⟩) (p2 - p1) (xc - p1)) (d := some 32) rfl rfl (by kernel_rfl) (by kernel_rfl) (by kernel_rfl) (fun _ _ _ h => h) (Or.inl ⟨by rfl, ?_⟩) hH ?_
          · (intro w' hE'; (try dsimp only at hE'); have y0 := Ext.keep hE' hs0; have y1 := Ext.keep hE' hczb; have y2 := Ext.keep hE' hcxb; go_simp; try with_reducible rfl)
          try simp only [Act.put, List.setIfInBounds_toArray, List.set_cons_zero, List.set_cons_succ]
          refine wpAnyH_ready (rs := [17]) (by kernel_rfl) (by simp) ?_
          refine AllReadyH.cons rfl (fun K hK => ?_) AllReadyH.nil
          rw [if_pos (by rfl)]
          go_wp2_with fail; (with_reducible refine (c_l1Copy (RI.ext HWN.out (Ext.refl wr).drew)).mono ?_); rintro e w9 ⟨C, cm, cd, rfl, hC, hE9⟩; obtain rfl : m = cm := by { have h7 := hC.len; have h8 := HWN.out.len; have h9 := HPM.out; omega }; have hC9 := hC; have hE99 := Ext.trans (Ext.refl wr).drew hE9
          refine hK.out _ _ (Ext.trans hH hE9) (fun hH9 => ?_)
          clear hK; have hH0 := hH; clear hH; have hH := hH9; clear hH9
          try simp only [Act.put, List.setIfInBounds_toArray, List.set_cons_zero, List.set_cons_succ]
          refine wpAnyH_take_dst (i := 18) (v := .agg #[.int .i64 x0, .slice C m cd]) (d := some 34) rfl rfl (by kernel_rfl) (by kernel_rfl) (by kernel_rfl) (fun _ _ _ h => h) (Or.inl ⟨by rfl, ?_⟩) hH ?_
          · (intro w' hE'; (try dsimp only at hE'); have y0 := Ext.keep hE' hs0; have y1 := Ext.keep hE' hczb; have y2 := Ext.keep hE' hcxb; go_simp; try with_reducible rfl)
          try simp only [Act.put, List.setIfInBounds_toArray, List.set_cons_zero, List.set_cons_succ]
          refine wpAnyH_ready (rs := [19]) (by kernel_rfl) (by simp) ?_
          refine AllReadyH.cons rfl (fun K hK => ?_) AllReadyH.nil
          rw [if_pos (by rfl)]
          go_wp2_with fail
          refine hK.out _ _ (hH.alloc _) (fun hH9 => ?_)
          clear hK; have hH0 := hH; clear hH; have hH := hH9; clear hH9
          try simp only [Act.put, List.setIfInBounds_toArray, List.set_cons_zero, List.set_cons_succ]
          refine wpAnyH_ready (rs := [20]) (by kernel_rfl) (by simp) ?_
          refine AllReadyH.cons rfl (fun K hK => ?_) AllReadyH.nil
          rw [if_pos (by rfl)]
          refine wp_append_poly (.tmp 16) (.tmp 35) 41 rfl i1 Try.underlying41 hji hjz hjs hjb (B := w.heap.size + 1) (top := wr.heap.size) rfl (hO.out.1.ext hE99) rfl rfl hC9 hk9 (by omega) hE99.size hO.out.2 (fun A6 c6 w6 hO6 hx6 => ?_); have hE6 := hx6 wb (Ext.trans hE.out hE99) (by omega)
          refine hK.out _ _ (hE6) (fun hH9 => ?_)
          clear hK; have hH0 := hH; clear hH; have hH := hH9; clear hH9
          try simp only [Act.put, List.setIfInBounds_toArray, List.set_cons_zero, List.set_cons_succ]
          refine wpAnyH_take_dst (i := 21) (v := .slice A6 (k + 1) c6) (d := some 5) rfl rfl (by kernel_rfl) (by kernel_rfl) (by kernel_rfl) (fun _ _ _ h => h) (Or.inl ⟨by rfl, ?_⟩) hH ?_
          · (intro w' hE'; (try dsimp only at hE'); have y0 := Ext.keep hE' hs0; have y1 := Ext.keep hE' hczb; have y2 := Ext.keep hE' hcxb; go_simp; try with_reducible rfl)
          try simp only [Act.put, List.setIfInBounds_toArray, List.set_cons_zero, List.set_cons_succ]
          refine wpAnyH_done (by kernel_rfl) ?_ _
          exact ⟨C, cd, _, A6, c6, by rfl, hO6, hE6⟩
        obtain ⟨C, cd, q, A6, c6, ha, ⟨hO6, hE6⟩⟩ := hR
        simp only [Act.put, List.setIfInBounds_toArray, List.set_cons_zero, List.set_cons_succ] at ha
        subst ha
        have HO6 := Lib.hid hO6
        have HOB6 := Lib.hid hO6.ob
        have z0 := Ext.keep hE6 hs0
        have z1 := Ext.keep hE6 hczb
        clear hO6 hr0 hcz hcx0
        go_wp2
        go_roundw
        case rel => exact ⟨k + 1, by go_num, by omega, by rw [HOS.out]; exact congrArg _ (by have := HP12.out; omega), ⟨A6, c6, rfl, Lib.hid ⟨by rw [HPS.out]; exact HO6.out, fun b hb => (HOB6.out b hb).2⟩⟩, Lib.hid hE6⟩
        case measure => simp only [intOf]; omega
    · obtain rfl : k = n0 := by omega
      have HT := Lib.hid (show ar.take k = ar from List.take_of_length_le (by omega))
      go_wp2
      go_ret
      exact ⟨A, k, c, rfl, by have h := hO.out.1.lower (B' := w.heap.size) (by omega); rwa [HT.out] at h, HEr.out⟩
/-- The rules fall by the polynomials of these numbers. -/
def TF (s : Sy) (xs : List Int) : Prop := polyAll true s (polysOf s.ar xs) = true
/-- The first numbers by which they do. -/
noncomputable def fpoO (s : Sy) (most : Int) : Option (List Int) :=
  @ite _ (sysOk s = true ∧ 0 ≤ triP s.ar most) (Classical.propDecidable _) (srch (TF s) (lowL s.ar) (List.replicate (offs s.ar) most) (cnt (lowL s.ar) (List.replicate (offs s.ar) most) - rkU (lowL s.ar) (lowL s.ar) (List.replicate (offs s.ar) most)) (lowL s.ar)) none
noncomputable def fpoV (s : Sy) (most : Int) : List Pl := ((fpoO s most).map (polysOf s.ar)).getD []
theorem fpoO_no {s : Sy} {most : Int} (h : ¬ (sysOk s = true ∧ 0 ≤ triP s.ar most)) : fpoO s most = none := if_neg h
theorem triP_in {ar : List Int} {most : Int} (h : 0 ≤ triP ar most) : 1 ≤ most ∧ most ≤ 3 := by
  unfold triP at h
  split at h
  · rename_i h1; exact h1.2
  · omega
theorem orients_at {s : Sy} {most : Int} {xs : List Int} (hs : sysOk s = true) (hm : 1 ≤ most ∧ most ≤ 3) (hb : Btw xs (lowL s.ar) (List.replicate (offs s.ar) most)) :
    PolysP s.ar (polysOf s.ar xs) ∧ polyOrients s (polysOf s.ar xs) = polyAll true s (polysOf s.ar xs) := by
  have hsp := sysOk_iff.1 hs
  have hsg : SigP s.ar := hsp.1
  have h0 : ∀ n ∈ s.ar, 0 ≤ n := fun n hn => (hsg.2.2 n hn).1
  have hk := polys_between hm.2 h0 hb
  have hp : PolysP s.ar (polysOf s.ar xs) := ⟨hsg, polysOf_len _ _, fun j p n h1 h2 => by
    obtain ⟨k1, k2, k3⟩ := hk j p n h1 h2
    exact ⟨k1, k2, fun x hx => by have := k3 x hx; omega⟩⟩
  refine ⟨hp, ?_⟩
  have hst : strictIn s.ar (polysOf s.ar xs) = true := strictIn_t (polysOk_iff.2 hp) fun p hp' x hx => by
    obtain ⟨j, hj⟩ := List.mem_iff_getElem?.1 hp'
    have hjl : j < s.ar.length := by have := (List.getElem?_eq_some_iff.1 hj).1; rw [polysOf_len] at this; exact this
    exact ((hk j p _ hj (List.getElem?_eq_getElem hjl)).2.2 x hx).1
  unfold polyOrients
  rw [hs, hst]; rfl
/-- How many lists are still to be looked at. -/
noncomputable def spMeas (T : List Int → Prop) (ls hs : List Int) (o : Option (List Int)) (N : Nat) (lv mv : Value) (w : World) : Nat := match mv with
  | .bool true => leastOf (fun k => ∃ A c xs, lv = .slice A N c ∧ RI w A N xs ∧ OnWay T ls hs o k xs) + 1
  | _ => 0
theorem spMeas_t {T : List Int → Prop} {ls hs : List Int} {o : Option (List Int)} {N : Nat} {lv : Value} {w : World} : spMeas T ls hs o N lv (.bool true) w = leastOf (fun k => ∃ A c xs, lv = .slice A N c ∧ RI w A N xs ∧ OnWay T ls hs o k xs) + 1 := rfl
theorem spMeas_f {T : List Int → Prop} {ls hs : List Int} {o : Option (List Int)} {N : Nat} {lv : Value} {w : World} : spMeas T ls hs o N lv (.bool false) w = 0 := rfl
def NewFs (w : World) (ps : List Pl) (b : Bool) (e : Ending) (w' : World) : Prop := ∃ A n c, e = .returned (.tuple #[.slice A n c, .bool b]) ∧ OwD w' w.heap.size w'.heap.size A n c ps ∧ Ext w w'
theorem low_ge (ar : List Int) (most : Int) : ∀ (k : Nat) (l : Int), (lowL ar)[k]? = some l → -1000000 ≤ l := by
  have : ∀ (ar : List Int), ∀ x ∈ lowL ar, 0 ≤ x := by
    intro ar
    induction ar with
    | nil => intro x hx; simp [lowL] at hx
    | cons n ar ih =>
      intro x hx
      rw [lowL] at hx
      rcases List.mem_append.1 hx with hx | hx
      · rcases List.mem_cons.1 hx with rfl | hx
        · omega
        · rw [(List.mem_replicate.1 hx).2]; omega
      · exact ih x hx
  intro k l hl
  have := this ar l (List.mem_of_getElem? hl)
  omega
theorem c_sSysOkP {v : Value} {s : Sy} {w : World} {b : Bool} (hb : sysOk s = b) (h0 : RdSyC w v s) :
    Calls Try.prog 38 #[v] w fun e w' => e = .returned (.bool b) ∧ Ext w w' :=
  (c_sSystemOk h0).mono fun _ _ ⟨he, hw⟩ => ⟨he.trans (ret_bool hb), hw⟩
theorem c_sOrientsB {v0 v1 : Value} {s : Sy} {ps : List Pl} {b : Bool} {w : World} (hb : polyOrients s ps = b) (h0 : RdSyC w v0 s) (h1 : RdPs w v1 ps) :
    Calls Try.prog 53 #[v0, v1] w fun e w' => e = .returned (.bool b) ∧ Ext w w' := by subst hb; exact c_sPolyOrients h0 h1
set_option maxRecDepth 100000 in
set_option maxHeartbeats 8000000 in
theorem c_sFirstPolys {v0 : Value} {s : Sy} {most : Int} {ps : List Pl} {bb : Bool} {w : World} (hps : fpoV s most = ps) (hbb : (fpoO s most).isSome = bb) (h0 : RdSyC w v0 s) :
    Calls Try.prog 19 #[v0, .int .i64 most] w (NewFs w ps bb) := by
  obtain ⟨A0, n0, c0, B0, m0, d0, rfl, ha, hb⟩ := h0
  have HA := Lib.hid ha
  have HB := Lib.hid hb
  obtain ⟨o, ho⟩ : ∃ o, fpoO s most = o := ⟨_, rfl⟩
  have HPS := Lib.hid (show (o.map (polysOf s.ar)).getD [] = ps by rw [← ho]; exact hps)
  have HBB := Lib.hid (show o.isSome = bb by rw [← ho]; exact hbb)
  have HO := Lib.hid ho
  obtain ⟨tw, htw⟩ : ∃ t, triW s.ar most = t := ⟨_, rfl⟩
  obtain ⟨tp, htp⟩ : ∃ t, triP s.ar most = t := ⟨_, rfl⟩
  have HTP := Lib.hid htp
  have HC := Lib.hid (show ∀ (v : Value) (w : World), RdSig w v s.ar → Calls Try.prog 49 #[v, .int .i64 most] w fun e w' => e = .returned (.tuple #[.int .i64 tw, .int .i64 tp]) ∧ Ext w w' from fun v w h => by rw [← htw, ← htp]; exact c_sTriesFor h)
  clear ha hb hps hbb ho htw htp
  cases hs : sysOk s with
  | false =>
    have HN := Lib.hid (show o = none by rw [← HO.out]; exact fpoO_no (fun h => by rw [hs] at h; cases h.1))
    go_enter Try.func19, Try.ntmps19
    go_wp2_with fail
    (with_reducible refine (HC.out _ _ (by (first | (first | (with_reducible exact RdI.mk (RI.ext (Hid.out (by with_reducible assumption)) (by exact extX))) | (with_reducible exact RdI.ext (by with_reducible assumption) (by exact extX))) | (with_reducible exact RdSyK.mk (by (first | (with_reducible exact RI.ext (Hid.out (by with_reducible assumption)) (by exact extX)))) (RR.ext (Hid.out (by with_reducible assumption)) (by exact extX))) | (with_reducible exact RdSyK.ext (by with_reducible assumption) (by exact extX)) | (with_reducible exact RdPs.mk (RP.ext (Hid.out (by with_reducible assumption)) (by exact extX))) | (with_reducible exact RdPs.ext (by with_reducible assumption) (by exact extX)) | (with_reducible exact RdPl.mk (by (first | (with_reducible exact RI.ext (Hid.out (by with_reducible assumption)) (by exact extX))))) | (with_reducible exact RdPl.ext (by with_reducible assumption) (by exact extX)) | (with_reducible exact RdSig.mk (by (first | (with_reducible exact RI.ext (Hid.out (by with_reducible assumption)) (by exact extX))))) | (with_reducible exact RdSig.ext (by with_reducible assumption) (by exact extX))))).mono ?_); rintro e w1 ⟨rfl, hE1⟩; have hz1 := sz_of hE1; (try simp only [World.size_alloc, World.size_setCell, World.size_drew] at hz1); obtain ⟨hc1, hf1⟩ := bcell hE1; (try have hq1_0 : w.heap.size < w1.heap.size := by omega); (try have hq1_1 : w.heap.size + 1 < w1.heap.size := by omega); (try have hq1_2 : w.heap.size + 1 + 1 < w1.heap.size := by omega); (try have hq1_3 : w.heap.size + 1 + 1 + 1 < w1.heap.size := by omega); (try have hq1_4 : w.heap.size + 1 + 1 + 1 + 1 < w1.heap.size := by omega); (try have hq1_5 : w.heap.size + 1 + 1 + 1 + 1 + 1 < w1.heap.size := by omega)
    go_wp2_with fail
    (with_reducible refine (c_sSysOkP hs (by (first | (first | (with_reducible exact RdI.mk (RI.ext (Hid.out (by with_reducible assumption)) (by exact extX))) | (with_reducible exact RdI.ext (by with_reducible assumption) (by exact extX))) | (with_reducible exact RdSyK.mk (by (first | (with_reducible exact RI.ext (Hid.out (by with_reducible assumption)) (by exact extX)))) (RR.ext (Hid.out (by with_reducible assumption)) (by exact extX))) | (with_reducible exact RdSyK.ext (by with_reducible assumption) (by exact extX)) | (with_reducible exact RdPs.mk (RP.ext (Hid.out (by with_reducible assumption)) (by exact extX))) | (with_reducible exact RdPs.ext (by with_reducible assumption) (by exact extX)) | (with_reducible exact RdPl.mk (by (first | (with_reducible exact RI.ext (Hid.out (by with_reducible assumption)) (by exact extX))))) | (with_reducible exact RdPl.ext (by with_reducible assumption) (by exact extX)) | (with_reducible exact RdSig.mk (by (first | (with_reducible exact RI.ext (Hid.out (by with_reducible assumption)) (by exact extX))))) | (with_reducible exact RdSig.ext (by with_reducible assumption) (by exact extX))))).mono ?_); rintro e w2 ⟨rfl, hE2⟩; have hz2 := sz_of hE2; (try simp only [World.size_alloc, World.size_setCell, World.size_drew] at hz2); obtain ⟨hc2, hf2⟩ := bcell hE2; (try have hq2_0 : w.heap.size < w2.heap.size := by omega); (try have hq2_1 : w.heap.size + 1 < w2.heap.size := by omega); (try have hq2_2 : w.heap.size + 1 + 1 < w2.heap.size := by omega); (try have hq2_3 : w.heap.size + 1 + 1 + 1 < w2.heap.size := by omega); (try have hq2_4 : w.heap.size + 1 + 1 + 1 + 1 < w2.heap.size := by omega); (try have hq2_5 : w.heap.size + 1 + 1 + 1 + 1 + 1 < w2.heap.size := by omega); (try have hx2_1 : w1.heap.size < w2.heap.size := by omega)
    have hEe := hE2
    go_wp2_with fail
    refine bodyPost_ret (v := .tuple #[.slice (some ⟨w2.heap.size, 0, none⟩) 0 0, .bool false]) (by simp [results, Try.results19, go_sem]) rfl ?_
    have hp0 : ps = [] := by rw [← HPS.out, HN.out]; rfl
    have hb0 : bb = false := by rw [← HBB.out, HN.out]; rfl
    have hE02 : Ext w w2 := by exact extX
    subst hp0; subst hb0
    exact ⟨_, 0, 0, rfl, OwD.none0 (w := w2) hE02.size, hE02.alloc _⟩
  | true =>
    by_cases htn : tp < 0
    · have HN := Lib.hid (show o = none by rw [← HO.out]; exact fpoO_no (fun h => by have := HTP.out; omega))
      have htd : decide (tp < 0) = true := by simpa using htn
      go_enter Try.func19, Try.ntmps19
      go_wp2_with fail
      (with_reducible refine (HC.out _ _ (by (first | (first | (with_reducible exact RdI.mk (RI.ext (Hid.out (by with_reducible assumption)) (by exact extX))) | (with_reducible exact RdI.ext (by with_reducible assumption) (by exact extX))) | (with_reducible exact RdSyK.mk (by (first | (with_reducible exact RI.ext (Hid.out (by with_reducible assumption)) (by exact extX)))) (RR.ext (Hid.out (by with_reducible assumption)) (by exact extX))) | (with_reducible exact RdSyK.ext (by with_reducible assumption) (by exact extX)) | (with_reducible exact RdPs.mk (RP.ext (Hid.out (by with_reducible assumption)) (by exact extX))) | (with_reducible exact RdPs.ext (by with_reducible assumption) (by exact extX)) | (with_reducible exact RdPl.mk (by (first | (with_reducible exact RI.ext (Hid.out (by with_reducible assumption)) (by exact extX))))) | (with_reducible exact RdPl.ext (by with_reducible assumption) (by exact extX)) | (with_reducible exact RdSig.mk (by (first | (with_reducible exact RI.ext (Hid.out (by with_reducible assumption)) (by exact extX))))) | (with_reducible exact RdSig.ext (by with_reducible assumption) (by exact extX))))).mono ?_); rintro e w1 ⟨rfl, hE1⟩; have hz1 := sz_of hE1; (try simp only [World.size_alloc, World.size_setCell, World.size_drew] at hz1); obtain ⟨hc1, hf1⟩ := bcell hE1; (try have hq1_0 : w.heap.size < w1.heap.size := by omega); (try have hq1_1 : w.heap.size + 1 < w1.heap.size := by omega); (try have hq1_2 : w.heap.size + 1 + 1 < w1.heap.size := by omega); (try have hq1_3 : w.heap.size + 1 + 1 + 1 < w1.heap.size := by omega); (try have hq1_4 : w.heap.size + 1 + 1 + 1 + 1 < w1.heap.size := by omega); (try have hq1_5 : w.heap.size + 1 + 1 + 1 + 1 + 1 < w1.heap.size := by omega)
      go_wp2_with fail
      (with_reducible refine (c_sSysOkP hs (by (first | (first | (with_reducible exact RdI.mk (RI.ext (Hid.out (by with_reducible assumption)) (by exact extX))) | (with_reducible exact RdI.ext (by with_reducible assumption) (by exact extX))) | (with_reducible exact RdSyK.mk (by (first | (with_reducible exact RI.ext (Hid.out (by with_reducible assumption)) (by exact extX)))) (RR.ext (Hid.out (by with_reducible assumption)) (by exact extX))) | (with_reducible exact RdSyK.ext (by with_reducible assumption) (by exact extX)) | (with_reducible exact RdPs.mk (RP.ext (Hid.out (by with_reducible assumption)) (by exact extX))) | (with_reducible exact RdPs.ext (by with_reducible assumption) (by exact extX)) | (with_reducible exact RdPl.mk (by (first | (with_reducible exact RI.ext (Hid.out (by with_reducible assumption)) (by exact extX))))) | (with_reducible exact RdPl.ext (by with_reducible assumption) (by exact extX)) | (with_reducible exact RdSig.mk (by (first | (with_reducible exact RI.ext (Hid.out (by with_reducible assumption)) (by exact extX))))) | (with_reducible exact RdSig.ext (by with_reducible assumption) (by exact extX))))).mono ?_); rintro e w2 ⟨rfl, hE2⟩; have hz2 := sz_of hE2; (try simp only [World.size_alloc, World.size_setCell, World.size_drew] at hz2); obtain ⟨hc2, hf2⟩ := bcell hE2; (try have hq2_0 : w.heap.size < w2.heap.size := by omega); (try have hq2_1 : w.heap.size + 1 < w2.heap.size := by omega); (try have hq2_2 : w.heap.size + 1 + 1 < w2.heap.size := by omega); (try have hq2_3 : w.heap.size + 1 + 1 + 1 < w2.heap.size := by omega); (try have hq2_4 : w.heap.size + 1 + 1 + 1 + 1 < w2.heap.size := by omega); (try have hq2_5 : w.heap.size + 1 + 1 + 1 + 1 + 1 < w2.heap.size := by omega); (try have hx2_1 : w1.heap.size < w2.heap.size := by omega)
      go_wp2_with fail
      refine bodyPost_ret (v := .tuple #[.slice (some ⟨w2.heap.size, 0, none⟩) 0 0, .bool false]) (by simp [results, Try.results19, go_sem]) rfl ?_
      have hp0 : ps = [] := by rw [← HPS.out, HN.out]; rfl
      have hb0 : bb = false := by rw [← HBB.out, HN.out]; rfl
      have hE02 : Ext w w2 := by exact extX
      subst hp0; subst hb0
      exact ⟨_, 0, 0, rfl, OwD.none0 (w := w2) hE02.size, hE02.alloc _⟩
    · have htd : decide (tp < 0) = false := by simpa using htn
      have hm : 1 ≤ most ∧ most ≤ 3 := triP_in (by rw [HTP.out]; omega)
      have hsp := sysOk_iff.1 hs
      have hsg : SigP s.ar := hsp.1
      have h8 : s.ar.length ≤ 8 := hsg.2.1
      have HS3 := Lib.hid (show ∀ n ∈ s.ar, 0 ≤ n ∧ n ≤ 3 from fun n hn => hsg.2.2 n hn)
      have HSO := Lib.hid hs
      have HW0 := Lib.hid (OnWay.start (T := TF s) (o := o) (lowL_btw hm.1 s.ar) (by rw [← HO.out]; unfold fpoO; rw [if_pos ⟨hs, by rw [HTP.out]; omega⟩]))
      obtain ⟨N, hN⟩ : ∃ N, N = offs s.ar := ⟨_, rfl⟩
      rw [← hN] at HW0
      have HNN := Lib.hid hN
      have HM := Lib.hid hm
      clear hsp hsg hN
      go_enter Try.func19, Try.ntmps19
      go_wp2_with fail
      (with_reducible refine (HC.out _ _ (by (first | (first | (with_reducible exact RdI.mk (RI.ext (Hid.out (by with_reducible assumption)) (by exact extX))) | (with_reducible exact RdI.ext (by with_reducible assumption) (by exact extX))) | (with_reducible exact RdSyK.mk (by (first | (with_reducible exact RI.ext (Hid.out (by with_reducible assumption)) (by exact extX)))) (RR.ext (Hid.out (by with_reducible assumption)) (by exact extX))) | (with_reducible exact RdSyK.ext (by with_reducible assumption) (by exact extX)) | (with_reducible exact RdPs.mk (RP.ext (Hid.out (by with_reducible assumption)) (by exact extX))) | (with_reducible exact RdPs.ext (by with_reducible assumption) (by exact extX)) | (with_reducible exact RdPl.mk (by (first | (with_reducible exact RI.ext (Hid.out (by with_reducible assumption)) (by exact extX))))) | (with_reducible exact RdPl.ext (by with_reducible assumption) (by exact extX)) | (with_reducible exact RdSig.mk (by (first | (with_reducible exact RI.ext (Hid.out (by with_reducible assumption)) (by exact extX))))) | (with_reducible exact RdSig.ext (by with_reducible assumption) (by exact extX))))).mono ?_); rintro e w1 ⟨rfl, hE1⟩; have hz1 := sz_of hE1; (try simp only [World.size_alloc, World.size_setCell, World.size_drew] at hz1); obtain ⟨hc1, hf1⟩ := bcell hE1; (try have hq1_0 : w.heap.size < w1.heap.size := by omega); (try have hq1_1 : w.heap.size + 1 < w1.heap.size := by omega); (try have hq1_2 : w.heap.size + 1 + 1 < w1.heap.size := by omega); (try have hq1_3 : w.heap.size + 1 + 1 + 1 < w1.heap.size := by omega); (try have hq1_4 : w.heap.size + 1 + 1 + 1 + 1 < w1.heap.size := by omega); (try have hq1_5 : w.heap.size + 1 + 1 + 1 + 1 + 1 < w1.heap.size := by omega)
      go_wp2_with fail
      (with_reducible refine (c_sSysOkP hs (by (first | (first | (with_reducible exact RdI.mk (RI.ext (Hid.out (by with_reducible assumption)) (by exact extX))) | (with_reducible exact RdI.ext (by with_reducible assumption) (by exact extX))) | (with_reducible exact RdSyK.mk (by (first | (with_reducible exact RI.ext (Hid.out (by with_reducible assumption)) (by exact extX)))) (RR.ext (Hid.out (by with_reducible assumption)) (by exact extX))) | (with_reducible exact RdSyK.ext (by with_reducible assumption) (by exact extX)) | (with_reducible exact RdPs.mk (RP.ext (Hid.out (by with_reducible assumption)) (by exact extX))) | (with_reducible exact RdPs.ext (by with_reducible assumption) (by exact extX)) | (with_reducible exact RdPl.mk (by (first | (with_reducible exact RI.ext (Hid.out (by with_reducible assumption)) (by exact extX))))) | (with_reducible exact RdPl.ext (by with_reducible assumption) (by exact extX)) | (with_reducible exact RdSig.mk (by (first | (with_reducible exact RI.ext (Hid.out (by with_reducible assumption)) (by exact extX))))) | (with_reducible exact RdSig.ext (by with_reducible assumption) (by exact extX))))).mono ?_); rintro e w2 ⟨rfl, hE2⟩; have hz2 := sz_of hE2; (try simp only [World.size_alloc, World.size_setCell, World.size_drew] at hz2); obtain ⟨hc2, hf2⟩ := bcell hE2; (try have hq2_0 : w.heap.size < w2.heap.size := by omega); (try have hq2_1 : w.heap.size + 1 < w2.heap.size := by omega); (try have hq2_2 : w.heap.size + 1 + 1 < w2.heap.size := by omega); (try have hq2_3 : w.heap.size + 1 + 1 + 1 < w2.heap.size := by omega); (try have hq2_4 : w.heap.size + 1 + 1 + 1 + 1 < w2.heap.size := by omega); (try have hq2_5 : w.heap.size + 1 + 1 + 1 + 1 + 1 < w2.heap.size := by omega); (try have hx2_1 : w1.heap.size < w2.heap.size := by omega)
      obtain ⟨wb, hwb⟩ : ∃ wb, wb = w.alloc (.cells #[.slice A0 n0 c0, .slice B0 m0 d0] 34) := ⟨_, rfl⟩
      have hb1 : wb.cell? ⟨w.heap.size, 1, none⟩ = some (.slice B0 m0 d0) := by rw [hwb]; simp [go_sem]
      have hb0 : wb.cell? ⟨w.heap.size, 0, none⟩ = some (.slice A0 n0 c0) := by rw [hwb]; simp [go_sem]
      have HEwb := Lib.hid (show Ext w wb by rw [hwb]; exact extX)
      have hEb2 : Ext wb w2 := by rw [hwb]; exact extX
      have k0 := Ext.keep hEb2 hb0
      have k1 := Ext.keep hEb2 hb1
      have HE2 := Lib.hid hEb2
      clear hwb hE1 hE2 hEb2
      go_wp2_with fail
      (with_reducible refine (c_l16Least (RdSig.mk (RI.ext HA.out (Ext.trans HEwb.out HE2.out))) h8 HS3.out).mono ?_)
      rintro e w3 ⟨LA, ln, lc, rfl, hL3, hE3⟩
      have hln : ln = N := by rw [← hL3.len, lowL_len]; exact HNN.out.symm
      subst hln
      have HL3 := Lib.hid hL3.ri
      have HE3 := Lib.hid (Ext.trans HE2.out hE3)
      clear hL3
      go_wp2_with fail
      (with_reducible refine (c_l1Copy HL3.out).mono ?_)
      rintro e w4 ⟨XA, xn, xc, rfl, hX4, hE4⟩
      have hxn : xn = ln := by have h1 := hX4.len; have h2 := HL3.out.len; omega
      subst hxn
      have hcp4 := hX4.cap
      have HX4 := Lib.hid hX4.ri
      have HL4 := Lib.hid (RI.ext HL3.out hE4)
      have HE4 := Lib.hid (Ext.trans HE3.out hE4)
      clear hX4 HL3 k0 k1
      go_wp2_with fail
      go_loopw [9, 10] (fun lv mv wr => ∃ more : Bool, mv = .bool more ∧ (∃ A c, lv = .slice A xn c ∧ Hid ((xn ≤ c ∧ c ≤ 9223372036854775807) ∧ (more = true → ∃ k xs, RI wr A xn xs ∧ OnWay (TF s) (lowL s.ar) (List.replicate xn most) o k xs) ∧ (more = false → o = none))) ∧ Hid (Ext w4 wr)) (fun lv mv wr => spMeas (TF s) (lowL s.ar) (List.replicate xn most) o xn lv mv wr)
      case atStart => exact ⟨true, rfl, ⟨XA, xc, rfl, Lib.hid ⟨hcp4, fun _ => ⟨_, _, HX4.out, HW0.out⟩, fun h => by cases h⟩⟩, Lib.hid (Ext.refl _)⟩
      case round =>
        obtain ⟨more, rfl, ⟨A, c, rfl, hI⟩, hEr⟩ := hrel
        have hErb := Ext.trans HE4.out hEr.out
        have HErw := Lib.hid (Ext.trans HEwb.out hErb)
        have k0 := Ext.keep hErb hb0
        have k1 := Ext.keep hErb hb1
        cases more with
        | false =>
          have HN := Lib.hid (hI.out.2.2 rfl)
          go_wp2_with fail
          refine bodyPost_ret (v := .tuple #[.slice (some ⟨wr.heap.size, 0, none⟩) 0 0, .bool false]) (by simp [results, Try.results19, go_sem]) rfl ?_
          have hp0 : ps = [] := by rw [← HPS.out, HN.out]; rfl
          have hb0 : bb = false := by rw [← HBB.out, HN.out]; rfl
          subst hp0; subst hb0
          exact ⟨_, 0, 0, rfl, OwD.none0 (w := wr) HErw.out.size, HErw.out.alloc _⟩
        | true =>
          have hcp := hI.out.1
          have hex : ∃ k, ∃ A' c' xs, Value.slice A xn c = .slice A' xn c' ∧ RI wr A' xn xs ∧ OnWay (TF s) (lowL s.ar) (List.replicate xn most) o k xs := by
            obtain ⟨k, xs, h1, h2⟩ := hI.out.2.1 rfl
            exact ⟨k, A, c, xs, rfl, h1, h2⟩
          obtain ⟨⟨A', c', xs, e', hX, hW⟩, _⟩ := leastOf_spec hex
          cases e'
          have HX := Lib.hid hX
          have HW := Lib.hid hW
          have hor := orients_at HSO.out HM.out (by have := hW.btw; rwa [HNN.out] at this)
          have HPP := Lib.hid hor.1
          have HOR := Lib.hid hor.2
          clear hX hW hex hor
          go_wp2_with fail
          (with_reducible refine (c_l16Polys (RdSig.mk (RI.ext HA.out HErw.out)) h8 HS3.out HX.out HNN.out hcp).mono ?_)
          rintro e w5 ⟨PA, pn, pc, rfl, hP5, hE5⟩
          have hE5b := Ext.trans hErb hE5
          have HE5w := Lib.hid (Ext.trans HErw.out hE5)
          have HP5 := Lib.hid hP5
          have HR5 := Lib.hid (OwQ.rp (OwD.q hP5))
          have m0 := Ext.keep hE5b hb0
          have m1 := Ext.keep hE5b hb1
          obtain ⟨g, hg⟩ : ∃ g, polyOrients s (polysOf s.ar xs) = g := ⟨_, rfl⟩
          have HG := Lib.hid hg
          have hgt : g = polyAll true s (polysOf s.ar xs) := by rw [← hg]; exact HOR.out
          have HGT := Lib.hid hgt
          clear hP5 k0 k1 hg hgt
          go_wp2_with fail
          (with_reducible refine (c_sOrientsB HG.out (RdSyK.mk (RI.ext HA.out HE5w.out) (RR.ext HB.out HE5w.out)) (RdPs.mk HR5.out)).mono ?_)
          rintro e w6 ⟨rfl, hE6⟩
          have HE6 := Lib.hid (Ext.trans hEr.out (Ext.trans hE5 hE6))
          have HE6w := Lib.hid (Ext.trans HE5w.out hE6)
          cases g with
          | true =>
            have ho : o = some xs := HW.out.yes HGT.out.symm
            go_wp2_with fail
            refine bodyPost_ret (v := .tuple #[.slice PA pn pc, .bool true]) (by simp [results, Try.results19, go_sem]) rfl ?_
            have hp0 : ps = polysOf s.ar xs := by rw [← HPS.out, ho]; rfl
            have hb0 : bb = true := by rw [← HBB.out, ho]; rfl
            subst hp0; subst hb0
            exact ⟨PA, pn, pc, rfl, ((HP5.out.ext hE6).mono hE6.size).lower HErw.out.size, HE6w.out⟩
          | false =>
            have hgo : ¬ TF s xs := fun h => by have h2 : polyAll true s (polysOf s.ar xs) = true := h; rw [← HGT.out] at h2; cases h2
            rcases hup : up xs (lowL s.ar) (List.replicate xn most) with ⟨ys, b2⟩
            have HUP := Lib.hid hup
            have HNX := Lib.hid (show (b2 = true → ∃ m, m < leastOf (fun k => ∃ A' c' xs, Value.slice A xn c = .slice A' xn c' ∧ RI wr A' xn xs ∧ OnWay (TF s) (lowL s.ar) (List.replicate xn most) o k xs) ∧ OnWay (TF s) (lowL s.ar) (List.replicate xn most) o m ys) ∧ (b2 = false → o = none) from ⟨fun e => by subst e; exact HW.out.next hgo hup, fun e => by subst e; exact HW.out.stop hgo hup⟩)
            clear hup m0 m1
            go_wp2_with fail
            (with_reducible refine (c_l16Next HUP.out (RI.ext HX.out (Ext.trans hE5 hE6)) (RI.ext HL4.out HE6.out) HW.out.btw HM.out (low_ge s.ar most)).mono ?_)
            rintro e w7 ⟨YA, yc, rfl, hY7, hE7⟩
            have HY7 := Lib.hid hY7
            have HE7 := Lib.hid (Ext.trans HE6.out hE7)
            clear hY7
            go_wp2_with fail
            go_roundw
            case rel => exact ⟨b2, rfl, ⟨YA, yc, rfl, Lib.hid ⟨HY7.out.cap, fun e => by
              obtain ⟨m, _, hm⟩ := HNX.out.1 e
              exact ⟨m, ys, HY7.out.ri, hm⟩, HNX.out.2⟩⟩, HE7⟩
            case measure =>
              rw [spMeas_t]
              cases b2 with
              | false => rw [spMeas_f]; omega
              | true =>
                rw [spMeas_t]
                obtain ⟨m, hm1', hm2⟩ := HNX.out.1 rfl
                have := leastOf_le (R := fun k => ∃ A' c' xs, Value.slice YA xn yc = .slice A' xn c' ∧ RI w7 A' xn xs ∧ OnWay (TF s) (lowL s.ar) (List.replicate xn most) o k xs) ⟨YA, yc, ys, rfl, HY7.out.ri, hm2⟩
                omega

/-! Polynomials out of numbers: the program's first ones. -/
theorem RI.dropE {w : World} {A B : Option Addr} {n k : Nat} {xs : List Int} (h : RI w A n xs) (hk : k = n) : RI w B 0 (xs.drop k) := by
  subst hk
  rw [List.drop_of_length_le (by rw [h.len]; exact Nat.le_refl _)]
  exact RI.nil _ _
theorem RI.dropP {w : World} {b o n k : Nat} {xs : List Int} (h : RI w (some ⟨b, o, none⟩) n xs) (hk : k ≤ n) : RI w (some ⟨b, o + k, none⟩) (n - k) (xs.drop k) := by
  have h2 := RI.window (m := n - k) (p := k) h (by omega)
  rwa [List.take_of_length_le (by rw [List.length_drop, h.len]; exact Nat.le_refl _)] at h2
set_option maxRecDepth 100000 in
set_option maxHeartbeats 4000000 in
theorem c_polysBy {v0 : Value} {XA : Option Addr} {N xc : Nat} {ar xs : List Int} {w : World} (h0 : RdSig w v0 ar) (h8 : ar.length ≤ 8) (h3 : ∀ n ∈ ar, 0 ≤ n ∧ n ≤ 3) (hx : RI w XA N xs) (hN : N = offs ar) (hcx : N ≤ xc ∧ xc ≤ 9223372036854775807) :
    Calls Try.prog 61 #[v0, .slice XA N xc] w fun e w' => ∃ A n c RA rn rc, e = .returned (.tuple #[.slice A n c, .slice RA rn rc]) ∧ OwD w' w.heap.size w'.heap.size A n c (polysOf ar xs) ∧ Ext w w' := by
  obtain ⟨A0, n0, c0, rfl, ha⟩ := h0
  have hn0 := ha.len
  have HA := Lib.hid ha
  have HS := Lib.hid h3
  have HX := Lib.hid hx
  have hxl := hx.len
  obtain ⟨i1, hji, hjz, hjs, hjb⟩ := info_parts polys_info'
  have hN32 : N ≤ 32 := by have := offs_bd h3; omega
  have HNN := Lib.hid hN
  have HCX := Lib.hid hcx
  clear ha h3 hx hN hcx
  go_enter Try.func61, Try.ntmps61
  go_wp2_with fail
  obtain ⟨wb, hwb⟩ : ∃ wb, wb = w.alloc (.cells #[.slice A0 n0 c0] 31) := ⟨_, rfl⟩
  have hs0 : wb.cell? ⟨w.heap.size, 0, none⟩ = some (.slice A0 n0 c0) := by rw [hwb]; simp [go_sem]
  have hbs : wb.heap.size = w.heap.size + 1 := by rw [hwb]; simp [go_sem]
  have HEwb := Lib.hid (show Ext w wb by rw [hwb]; exact extX)
  rw [← hwb]
  clear hwb
  go_loopw [1, 6, 12] (fun nv ov iv wr => ∃ k : Nat, iv = .int .i64 k ∧ k ≤ n0 ∧ (∃ NA nn nc, nv = .slice NA nn nc ∧ Hid (nn + offs (ar.take k) = N ∧ (nn ≤ nc ∧ nc ≤ 9223372036854775807) ∧ RI wb NA nn (xs.drop (offs (ar.take k))))) ∧ (∃ A c, ov = .slice A k c ∧ Hid (OwD wr (w.heap.size + 1) wr.heap.size A k c (polysOf (ar.take k) xs) ∧ ∀ b, (Value.slice A k c).ownBlock = some b → b < wr.heap.size)) ∧ Hid (Ext wb wr)) (fun _ _ iv _ => n0 - (intOf iv).toNat)
  case atStart => exact ⟨0, rfl, Nat.zero_le _, ⟨XA, N, xc, rfl, Lib.hid ⟨by simp [offs], HCX.out, by simpa [offs] using RI.ext HX.out HEwb.out⟩⟩, ⟨none, 0, rfl, Lib.hid ⟨by simpa [polysOf] using OwD.nil wb (w.heap.size + 1) wb.heap.size, fun b hb => by cases hb⟩⟩, Lib.hid (Ext.refl wb)⟩
  case round =>
    obtain ⟨k, rfl, hk, ⟨NA, nn, nc, rfl, hNA⟩, ⟨A, c, rfl, hO⟩, hE⟩ := hrel
    have hr0 := Ext.keep hE.out hs0
    have HEr := Lib.hid (Ext.trans HEwb.out hE.out)
    by_cases hlt : k < n0
    · obtain ⟨b, o, z, rfl, hz, hczb⟩ := RI.at_ (RI.ext HA.out HEwb.out) hlt
      have hcz := Ext.keep hE.out hczb
      have hzb := HS.out z (List.mem_of_getElem? hz)
      obtain ⟨m, rfl⟩ := Int.eq_ofNat_of_zero_le hzb.1
      have hm3 : m ≤ 3 := by omega
      have hki : (k : Int) < (n0 : Int) := by omega
      have hk0 : (0 : Int) ≤ (k : Int) := by omega
      have hos := offs_succ hz
      have hle := offs_le ar (k + 1)
      rw [Int.toNat_natCast] at hos
      obtain ⟨p, hp⟩ : ∃ p, offs (ar.take k) = p := ⟨_, rfl⟩
      rw [hp] at hos
      have hNA1 := hNA.out.1
      have hNAc := hNA.out.2.1
      rw [hp] at hNA1
      have hNN := HNN.out
      have hnn1 : m + 1 ≤ nn := by omega
      have HRN := Lib.hid (show RI wb NA nn (xs.drop p) from by have := hNA.out.2.2; rwa [hp] at this)
      obtain ⟨nb, no, x0, rfl, hx0, hcxb⟩ := RI.at_ HRN.out (show 0 < nn by omega)
      rw [Nat.add_zero] at hcxb
      have hcx0 := Ext.keep hE.out hcxb
      have hx0' : xs[p]? = some x0 := by rw [List.getElem?_drop, Nat.add_zero] at hx0; exact hx0
      have HPS := Lib.hid (show polysOf (ar.take (k + 1)) xs = polysOf (ar.take k) xs ++ [⟨x0, (xs.drop (p + 1)).take m⟩] from by
        rw [polysOf_succ hz, hp, Int.toNat_natCast]
        congr 3
        rw [List.getD_eq_getElem?_getD, hx0']; rfl)
      have HDR := Lib.hid (show (xs.drop p).drop 1 = xs.drop (p + 1) from List.drop_drop)
      have HDR2 := Lib.hid (show (xs.drop p).drop (m + 1) = xs.drop (offs (ar.take (k + 1))) from by rw [List.drop_drop, hos])
      have HOS := Lib.hid (show offs (ar.take (k + 1)) = p + (m + 1) from hos)
      have hbl := World.block_lt_of_cell? wr _ hcz
      have hbl2 := World.block_lt_of_cell? wr _ hcx0
      have hbl3 := World.block_lt_of_cell? wr _ hr0
      have hnp : nn + p = N := hNA1
      have hk9 : k + 1 ≤ 1000 := by omega
      have hnn0 : (0 : Int) < (nn : Int) := by omega
      have hnn0n : ¬ nn = 0 := by omega
      have hwr1 : IntKind.i64.wrap 1 = 1 := by rfl
      clear hz hx0 hx0' hos hle hNN hp hNA hNA1
      by_cases hnc : nc = 1
      · subst hnc
        obtain rfl : nn = 1 := by omega
        obtain rfl : m = 0 := by omega
        have HPM := Lib.hid (show (0 : Nat) = 0 from rfl)
        have HWN := Lib.hid (show RI wr (some ⟨nb, no, none⟩) 0 ((xs.drop (p + 1)).take 0) from RI.windowE rfl)
        go_wp2_with fail
        refine wp_only (R := fun (a0 : Act) (a8 : Act) (w9 : World) => ∃ (C : Option Addr) (cd : Nat) (q : Nat) (A6 : Option Addr) (c6 : Nat), a8 = (((((((((((((a0.put (some 16) (.slice A k c)).put (some 17) (.slice (some ⟨nb, no, none⟩) 1 1)).put (some 18) (.pointer (some ⟨nb, no, none⟩))).put (some 19) (.int .i64 x0)).put (some 20) (.slice (some ⟨nb, no, none⟩) 1 1)).put (some 21) (.int .i64 0)).put (some 22) (.int .i64 1)).put (some 23) (.slice (some ⟨nb, no, none⟩) 0 0)).put (some 24) (.slice C 0 cd)).put (some 25) (.agg #[.int .i64 x0, .slice C 0 cd])).put (some 26) (.slice (some ⟨q, 0, none⟩) 1 1)).put (some 27) (.slice A6 (k + 1) c6)).put (some 6) (.slice A6 (k + 1) c6)) ∧ OwD w9 (w.heap.size + 1) w9.heap.size A6 (k + 1) c6 (polysOf (ar.take k) xs ++ [⟨x0, (xs.drop (p + 1)).take 0⟩]) ∧ Ext wb w9) ?_ (fun a8 w7 hR => ?_)
        · refine wp_region_held_drew (S := (fun w' => Ext wb w')) (by kernel_rfl) (hE.out.drew) (fun hH => ?_)
          refine wpAnyH_take_dst (i := 0) (v := .slice A k c) (d := some 16) rfl rfl (by kernel_rfl) (by kernel_rfl) (by kernel_rfl) (fun _ _ _ h => h) (Or.inl ⟨by rfl, ?_⟩) hH ?_
          · (intro w' hE'; (try dsimp only at hE'); have y0 := Ext.keep hE' hcxb; go_simp; try with_reducible rfl)
          try simp only [Act.put, List.setIfInBounds_toArray, List.set_cons_zero, List.set_cons_succ]
          refine wpAnyH_take_dst (i := 1) (v := .slice (some ⟨nb, no, none⟩) 1 1) (d := some 17) rfl rfl (by kernel_rfl) (by kernel_rfl) (by kernel_rfl) (fun _ _ _ h => h) (Or.inl ⟨by rfl, ?_⟩) hH ?_
          · (intro w' hE'; (try dsimp only at hE'); have y0 := Ext.keep hE' hcxb; go_simp; try with_reducible rfl)
          try simp only [Act.put, List.setIfInBounds_toArray, List.set_cons_zero, List.set_cons_succ]
          refine wpAnyH_take_dst (i := 2) (v := .pointer (some ⟨nb, no, none⟩)) (d := some 18) rfl rfl (by kernel_rfl) (by kernel_rfl) (by kernel_rfl) (fun _ _ _ h => h) (Or.inl ⟨by rfl, ?_⟩) hH ?_
          · (intro w' hE'; (try dsimp only at hE'); have y0 := Ext.keep hE' hcxb; go_simp; try with_reducible rfl)
          try simp only [Act.put, List.setIfInBounds_toArray, List.set_cons_zero, List.set_cons_succ]
          refine wpAnyH_take_dst (i := 3) (v := .int .i64 x0) (d := some 19) rfl rfl (by kernel_rfl) (by kernel_rfl) (by kernel_rfl) (fun _ _ _ h => h) (Or.inl ⟨by rfl, ?_⟩) hH ?_
          · (intro w' hE'; (try dsimp only at hE'); have y0 := Ext.keep hE' hcxb; go_simp; try with_reducible rfl)
          try simp only [Act.put, List.setIfInBounds_toArray, List.set_cons_zero, List.set_cons_succ]
          refine wpAnyH_take_dst (i := 4) (v := .slice (some ⟨nb, no, none⟩) 1 1) (d := some 20) rfl rfl (by kernel_rfl) (by kernel_rfl) (by kernel_rfl) (fun _ _ _ h => h) (Or.inl ⟨by rfl, ?_⟩) hH ?_
          · (intro w' hE'; (try dsimp only at hE'); have y0 := Ext.keep hE' hcxb; go_simp; try with_reducible rfl)
          try simp only [Act.put, List.setIfInBounds_toArray, List.set_cons_zero, List.set_cons_succ]
          refine wpAnyH_take_dst (i := 5) (v := .int .i64 0) (d := some 21) rfl rfl (by kernel_rfl) (by kernel_rfl) (by kernel_rfl) (fun _ _ _ h => h) (Or.inl ⟨by rfl, ?_⟩) hH ?_
          · (intro w' hE'; (try dsimp only at hE'); have y0 := Ext.keep hE' hcxb; go_simp; try with_reducible rfl)
          try simp only [Act.put, List.setIfInBounds_toArray, List.set_cons_zero, List.set_cons_succ]
          refine wpAnyH_take_dst (i := 6) (v := .int .i64 1) (d := some 22) rfl rfl (by kernel_rfl) (by kernel_rfl) (by kernel_rfl) (fun _ _ _ h => h) (Or.inl ⟨by rfl, ?_⟩) hH ?_
          · (intro w' hE'; (try dsimp only at hE'); have y0 := Ext.keep hE' hcxb; go_simp; try with_reducible rfl)
          try simp only [Act.put, List.setIfInBounds_toArray, List.set_cons_zero, List.set_cons_succ]
          refine wpAnyH_take_dst (i := 7) (v := .slice (some ⟨nb, no, none⟩) 0 0) (d := some 23) rfl rfl (by kernel_rfl) (by kernel_rfl) (by kernel_rfl) (fun _ _ _ h => h) (Or.inl ⟨by rfl, ?_⟩) hH ?_
          · (intro w' hE'; (try dsimp only at hE'); have y0 := Ext.keep hE' hcxb; go_simp; try with_reducible rfl)
          try simp only [Act.put, List.setIfInBounds_toArray, List.set_cons_zero, List.set_cons_succ]
          refine wpAnyH_ready (rs := [8]) (by kernel_rfl) (by simp) ?_
          refine AllReadyH.cons rfl (fun K hK => ?_) AllReadyH.nil
          rw [if_pos (by rfl)]
          go_wp2_with fail; (with_reducible refine (c_clone (RI.ext HWN.out (Ext.refl wr).drew)).mono ?_); rintro e w9 ⟨C, cm, cd, rfl, hC, hE9⟩; obtain rfl : 0 = cm := by { have h7 := hC.len; have h8 := HWN.out.len; have h9 := HPM.out; omega }; have hC9 := hC; have hE99 := Ext.trans (Ext.refl wr).drew hE9
          refine hK.out _ _ (Ext.trans hH hE9) (fun hH9 => ?_)
          clear hK; have hH0 := hH; clear hH; have hH := hH9; clear hH9
          try simp only [Act.put, List.setIfInBounds_toArray, List.set_cons_zero, List.set_cons_succ]
          refine wpAnyH_take_dst (i := 9) (v := .agg #[.int .i64 x0, .slice C 0 cd]) (d := some 25) rfl rfl (by kernel_rfl) (by kernel_rfl) (by kernel_rfl) (fun _ _ _ h => h) (Or.inl ⟨by rfl, ?_⟩) hH ?_
          · (intro w' hE'; (try dsimp only at hE'); have y0 := Ext.keep hE' hcxb; go_simp; try with_reducible rfl)
          try simp only [Act.put, List.setIfInBounds_toArray, List.set_cons_zero, List.set_cons_succ]
          refine wpAnyH_ready (rs := [10]) (by kernel_rfl) (by simp) ?_
          refine AllReadyH.cons rfl (fun K hK => ?_) AllReadyH.nil
          rw [if_pos (by rfl)]
          go_wp2_with fail
          refine hK.out _ _ (hH.alloc _) (fun hH9 => ?_)
          clear hK; have hH0 := hH; clear hH; have hH := hH9; clear hH9
          try simp only [Act.put, List.setIfInBounds_toArray, List.set_cons_zero, List.set_cons_succ]
          refine wpAnyH_ready (rs := [11]) (by kernel_rfl) (by simp) ?_
          refine AllReadyH.cons rfl (fun K hK => ?_) AllReadyH.nil
          rw [if_pos (by rfl)]
          refine wp_append_poly (.tmp 16) (.tmp 26) 41 rfl i1 Try.underlying41 hji hjz hjs hjb (B := w.heap.size + 1) (top := wr.heap.size) rfl (hO.out.1.ext hE99) rfl rfl hC9 hk9 (by have := hE.out.size; omega) hE99.size hO.out.2 (fun A6 c6 w6 hO6 hx6 => ?_); have hE6 := hx6 wb (Ext.trans hE.out hE99) (by omega)
          refine hK.out _ _ (hE6) (fun hH9 => ?_)
          clear hK; have hH0 := hH; clear hH; have hH := hH9; clear hH9
          try simp only [Act.put, List.setIfInBounds_toArray, List.set_cons_zero, List.set_cons_succ]
          refine wpAnyH_take_dst (i := 12) (v := .slice A6 (k + 1) c6) (d := some 6) rfl rfl (by kernel_rfl) (by kernel_rfl) (by kernel_rfl) (fun _ _ _ h => h) (Or.inl ⟨by rfl, ?_⟩) hH ?_
          · (intro w' hE'; (try dsimp only at hE'); have y0 := Ext.keep hE' hcxb; go_simp; try with_reducible rfl)
          try simp only [Act.put, List.setIfInBounds_toArray, List.set_cons_zero, List.set_cons_succ]
          refine wpAnyH_done (by kernel_rfl) ?_ _
          exact ⟨C, cd, _, A6, c6, by rfl, hO6, hE6⟩
        obtain ⟨C, cd, q, A6, c6, ha, ⟨hO6, hE6⟩⟩ := hR
        simp only [Act.put, List.setIfInBounds_toArray, List.set_cons_zero, List.set_cons_succ] at ha
        subst ha
        have HO6 := Lib.hid hO6
        have HOB6 := Lib.hid hO6.ob
        clear hO6 hr0 hcz hcx0
        go_wp2
        go_roundw
        case rel => exact ⟨k + 1, by go_num, by omega, ⟨_, 0, 0, rfl, Lib.hid ⟨by rw [HOS.out]; have := HPM.out; omega, (by omega), by rw [← HDR2.out]; exact RI.dropE HRN.out (by omega)⟩⟩, ⟨A6, c6, rfl, Lib.hid ⟨by rw [HPS.out]; exact HO6.out, fun b hb => (HOB6.out b hb).2⟩⟩, Lib.hid hE6⟩
        case measure => simp only [intOf]; omega
      · obtain ⟨m1, hm1⟩ : ∃ m1, m1 = m + 1 := ⟨_, rfl⟩
        have hw1 : IntKind.i64.wrap ((m : Int) + 1) = (m1 : Int) := by rw [hm1]; exact (IntWalk.i64_in _ (by omega)).trans (by omega)
        have hi1 : 1 ≤ m1 := by omega
        have hi2 : m1 ≤ nc := by omega
        have hi3 : m1 ≤ nn := by omega
        have hi1' : (1 : Int) ≤ (m1 : Int) := by omega
        have hi2' : (m1 : Int) ≤ (nc : Int) := by omega
        have HPM := Lib.hid (show m1 - 1 = m by omega)
        have HM1 := Lib.hid hm1
        have HWN := Lib.hid (show RI wr (some ⟨nb, no + 1, none⟩) (m1 - 1) ((xs.drop (p + 1)).take m) from by
          rw [HPM.out, ← HDR.out]; exact RI.window (RI.ext HRN.out hE.out) (by omega))
        have hnd : decide (nc = 1) = false := by simpa using hnc
        clear hm1
        go_wp2_with fail
        refine wp_only (R := fun (a0 : Act) (a8 : Act) (w9 : World) => ∃ (C : Option Addr) (cd : Nat) (q : Nat) (A6 : Option Addr) (c6 : Nat), a8 = (((((((((((((a0.put (some 16) (.slice A k c)).put (some 17) (.slice (some ⟨nb, no, none⟩) nn nc)).put (some 18) (.pointer (some ⟨nb, no, none⟩))).put (some 19) (.int .i64 x0)).put (some 20) (.slice (some ⟨nb, no, none⟩) nn nc)).put (some 21) (.int .i64 (m : Int))).put (some 22) (.int .i64 (m1 : Int))).put (some 23) (.slice (some ⟨nb, no + 1, none⟩) (m1 - 1) (nc - 1))).put (some 24) (.slice C m cd)).put (some 25) (.agg #[.int .i64 x0, .slice C m cd])).put (some 26) (.slice (some ⟨q, 0, none⟩) 1 1)).put (some 27) (.slice A6 (k + 1) c6)).put (some 6) (.slice A6 (k + 1) c6)) ∧ OwD w9 (w.heap.size + 1) w9.heap.size A6 (k + 1) c6 (polysOf (ar.take k) xs ++ [⟨x0, (xs.drop (p + 1)).take m⟩]) ∧ Ext wb w9) ?_ (fun a8 w7 hR => ?_)
        · refine wp_region_held_drew (S := (fun w' => Ext wb w')) (by kernel_rfl) (hE.out.drew) (fun hH => ?_)
          refine wpAnyH_take_dst (i := 0) (v := .slice A k c) (d := some 16) rfl rfl (by kernel_rfl) (by kernel_rfl) (by kernel_rfl) (fun _ _ _ h => h) (Or.inl ⟨by rfl, ?_⟩) hH ?_
          · (intro w' hE'; (try dsimp only at hE'); have y0 := Ext.keep hE' hcxb; go_simp; try with_reducible rfl)
          try simp only [Act.put, List.setIfInBounds_toArray, List.set_cons_zero, List.set_cons_succ]
          refine wpAnyH_take_dst (i := 1) (v := .slice (some ⟨nb, no, none⟩) nn nc) (d := some 17) rfl rfl (by kernel_rfl) (by kernel_rfl) (by kernel_rfl) (fun _ _ _ h => h) (Or.inl ⟨by rfl, ?_⟩) hH ?_
          · (intro w' hE'; (try dsimp only at hE'); have y0 := Ext.keep hE' hcxb; go_simp; try with_reducible rfl)
          try simp only [Act.put, List.setIfInBounds_toArray, List.set_cons_zero, List.set_cons_succ]
          refine wpAnyH_take_dst (i := 2) (v := .pointer (some ⟨nb, no, none⟩)) (d := some 18) rfl rfl (by kernel_rfl) (by kernel_rfl) (by kernel_rfl) (fun _ _ _ h => h) (Or.inl ⟨by rfl, ?_⟩) hH ?_
          · (intro w' hE'; (try dsimp only at hE'); have y0 := Ext.keep hE' hcxb; go_simp; try with_reducible rfl)
          try simp only [Act.put, List.setIfInBounds_toArray, List.set_cons_zero, List.set_cons_succ]
          refine wpAnyH_take_dst (i := 3) (v := .int .i64 x0) (d := some 19) rfl rfl (by kernel_rfl) (by kernel_rfl) (by kernel_rfl) (fun _ _ _ h => h) (Or.inl ⟨by rfl, ?_⟩) hH ?_
          · (intro w' hE'; (try dsimp only at hE'); have y0 := Ext.keep hE' hcxb; go_simp; try with_reducible rfl)
          try simp only [Act.put, List.setIfInBounds_toArray, List.set_cons_zero, List.set_cons_succ]
          refine wpAnyH_take_dst (i := 4) (v := .slice (some ⟨nb, no, none⟩) nn nc) (d := some 20) rfl rfl (by kernel_rfl) (by kernel_rfl) (by kernel_rfl) (fun _ _ _ h => h) (Or.inl ⟨by rfl, ?_⟩) hH ?_
          · (intro w' hE'; (try dsimp only at hE'); have y0 := Ext.keep hE' hcxb; go_simp; try with_reducible rfl)
          try simp only [Act.put, List.setIfInBounds_toArray, List.set_cons_zero, List.set_cons_succ]
          refine wpAnyH_take_dst (i := 5) (v := .int .i64 (m : Int)) (d := some 21) rfl rfl (by kernel_rfl) (by kernel_rfl) (by kernel_rfl) (fun _ _ _ h => h) (Or.inl ⟨by rfl, ?_⟩) hH ?_
          · (intro w' hE'; (try dsimp only at hE'); have y0 := Ext.keep hE' hcxb; go_simp; try with_reducible rfl)
          try simp only [Act.put, List.setIfInBounds_toArray, List.set_cons_zero, List.set_cons_succ]
          refine wpAnyH_take_dst (i := 6) (v := .int .i64 (m1 : Int)) (d := some 22) rfl rfl (by kernel_rfl) (by kernel_rfl) (by kernel_rfl) (fun _ _ _ h => h) (Or.inl ⟨by rfl, ?_⟩) hH ?_
          · (intro w' hE'; (try dsimp only at hE'); have y0 := Ext.keep hE' hcxb; go_simp; try with_reducible rfl)
          try simp only [Act.put, List.setIfInBounds_toArray, List.set_cons_zero, List.set_cons_succ]
          refine wpAnyH_take_dst (i := 7) (v := .slice (some ⟨nb, no + 1, none⟩) (m1 - 1) (nc - 1)) (d := some 23) rfl rfl (by kernel_rfl) (by kernel_rfl) (by kernel_rfl) (fun _ _ _ h => h) (Or.inl ⟨by rfl, ?_⟩) hH ?_
          · (intro w' hE'; (try dsimp only at hE'); have y0 := Ext.keep hE' hcxb; go_simp; try with_reducible rfl)
          try simp only [Act.put, List.setIfInBounds_toArray, List.set_cons_zero, List.set_cons_succ]
          refine wpAnyH_ready (rs := [8]) (by kernel_rfl) (by simp) ?_
          refine AllReadyH.cons rfl (fun K hK => ?_) AllReadyH.nil
          rw [if_pos (by rfl)]
          go_wp2_with fail; (with_reducible refine (c_clone (RI.ext HWN.out (Ext.refl wr).drew)).mono ?_); rintro e w9 ⟨C, cm, cd, rfl, hC, hE9⟩; obtain rfl : m = cm := by { have h7 := hC.len; have h8 := HWN.out.len; have h9 := HPM.out; omega }; have hC9 := hC; have hE99 := Ext.trans (Ext.refl wr).drew hE9
          refine hK.out _ _ (Ext.trans hH hE9) (fun hH9 => ?_)
          clear hK; have hH0 := hH; clear hH; have hH := hH9; clear hH9
          try simp only [Act.put, List.setIfInBounds_toArray, List.set_cons_zero, List.set_cons_succ]
          refine wpAnyH_take_dst (i := 9) (v := .agg #[.int .i64 x0, .slice C m cd]) (d := some 25) rfl rfl (by kernel_rfl) (by kernel_rfl) (by kernel_rfl) (fun _ _ _ h => h) (Or.inl ⟨by rfl, ?_⟩) hH ?_
          · (intro w' hE'; (try dsimp only at hE'); have y0 := Ext.keep hE' hcxb; go_simp; try with_reducible rfl)
          try simp only [Act.put, List.setIfInBounds_toArray, List.set_cons_zero, List.set_cons_succ]
          refine wpAnyH_ready (rs := [10]) (by kernel_rfl) (by simp) ?_
          refine AllReadyH.cons rfl (fun K hK => ?_) AllReadyH.nil
          rw [if_pos (by rfl)]
          go_wp2_with fail
          refine hK.out _ _ (hH.alloc _) (fun hH9 => ?_)
          clear hK; have hH0 := hH; clear hH; have hH := hH9; clear hH9
          try simp only [Act.put, List.setIfInBounds_toArray, List.set_cons_zero, List.set_cons_succ]
          refine wpAnyH_ready (rs := [11]) (by kernel_rfl) (by simp) ?_
          refine AllReadyH.cons rfl (fun K hK => ?_) AllReadyH.nil
          rw [if_pos (by rfl)]
          refine wp_append_poly (.tmp 16) (.tmp 26) 41 rfl i1 Try.underlying41 hji hjz hjs hjb (B := w.heap.size + 1) (top := wr.heap.size) rfl (hO.out.1.ext hE99) rfl rfl hC9 hk9 (by have := hE.out.size; omega) hE99.size hO.out.2 (fun A6 c6 w6 hO6 hx6 => ?_); have hE6 := hx6 wb (Ext.trans hE.out hE99) (by omega)
          refine hK.out _ _ (hE6) (fun hH9 => ?_)
          clear hK; have hH0 := hH; clear hH; have hH := hH9; clear hH9
          try simp only [Act.put, List.setIfInBounds_toArray, List.set_cons_zero, List.set_cons_succ]
          refine wpAnyH_take_dst (i := 12) (v := .slice A6 (k + 1) c6) (d := some 6) rfl rfl (by kernel_rfl) (by kernel_rfl) (by kernel_rfl) (fun _ _ _ h => h) (Or.inl ⟨by rfl, ?_⟩) hH ?_
          · (intro w' hE'; (try dsimp only at hE'); have y0 := Ext.keep hE' hcxb; go_simp; try with_reducible rfl)
          try simp only [Act.put, List.setIfInBounds_toArray, List.set_cons_zero, List.set_cons_succ]
          refine wpAnyH_done (by kernel_rfl) ?_ _
          exact ⟨C, cd, _, A6, c6, by rfl, hO6, hE6⟩
        obtain ⟨C, cd, q, A6, c6, ha, ⟨hO6, hE6⟩⟩ := hR
        simp only [Act.put, List.setIfInBounds_toArray, List.set_cons_zero, List.set_cons_succ] at ha
        subst ha
        have HO6 := Lib.hid hO6
        have HOB6 := Lib.hid hO6.ob
        clear hO6 hr0 hcz hcx0
        by_cases hnm : nc = m1
        · subst hnm
          have hnnm : nn = nc := by omega
          subst hnnm
          go_wp2
          go_roundw
          case rel => exact ⟨k + 1, by go_num, by omega, ⟨_, 0, 0, rfl, Lib.hid ⟨by rw [HOS.out]; have := HPM.out; have := HM1.out; omega, (by omega), by rw [← HDR2.out]; exact RI.dropE HRN.out (by have := HM1.out; omega)⟩⟩, ⟨A6, c6, rfl, Lib.hid ⟨by rw [HPS.out]; exact HO6.out, fun b hb => (HOB6.out b hb).2⟩⟩, Lib.hid hE6⟩
          case measure => simp only [intOf]; omega
        · have hnmd : decide (nc = m1) = false := by simpa using hnm
          go_wp2
          go_roundw
          case rel => exact ⟨k + 1, by go_num, by omega, ⟨_, nn - m1, nc - m1, rfl, Lib.hid ⟨by rw [HOS.out]; have := HPM.out; have := HM1.out; omega, (by omega), by rw [← HDR2.out, ← HM1.out]; exact RI.dropP HRN.out (by omega)⟩⟩, ⟨A6, c6, rfl, Lib.hid ⟨by rw [HPS.out]; exact HO6.out, fun b hb => (HOB6.out b hb).2⟩⟩, Lib.hid hE6⟩
          case measure => simp only [intOf]; omega
    · obtain rfl : k = n0 := by omega
      have HT := Lib.hid (show ar.take k = ar from List.take_of_length_le (by omega))
      go_wp2
      refine bodyPost_ret (v := .tuple #[.slice A k c, .slice NA nn nc]) (by simp [results, Try.results61, go_sem]) rfl ?_
      exact ⟨A, k, c, NA, nn, nc, rfl, by have h := hO.out.1.lower (B' := w.heap.size) (by omega); rwa [HT.out] at h, HEr.out⟩
/-- How many lists are still to be looked at. -/
noncomputable def ipMeas (T : List Int → Prop) (ls hs : List Int) (o : Option (List Int)) (B g n c : Nat) (mv : Value) (w : World) : Nat := match mv with
  | .bool true => leastOf (fun k => ∃ xs, OwI w B (some ⟨g, 0, none⟩) n c xs ∧ OnWay T ls hs o k xs) + 1
  | _ => 0
theorem ipMeas_t {T : List Int → Prop} {ls hs : List Int} {o : Option (List Int)} {B g n c : Nat} {w : World} : ipMeas T ls hs o B g n c (.bool true) w = leastOf (fun k => ∃ xs, OwI w B (some ⟨g, 0, none⟩) n c xs ∧ OnWay T ls hs o k xs) + 1 := rfl
theorem ipMeas_f {T : List Int → Prop} {ls hs : List Int} {o : Option (List Int)} {B g n c : Nat} {w : World} : ipMeas T ls hs o B g n c (.bool false) w = 0 := rfl
theorem low_big {most : Int} (hm : most ≤ 3) (ar : List Int) (n : Nat) : (∀ (k : Nat) (h : Int), (List.replicate n most)[k]? = some h → h ≤ 1000000) ∧ ∀ (k : Nat) (l : Int), (lowL ar)[k]? = some l → -1000000 ≤ l := by
  refine ⟨fun k h hk => ?_, low_ge ar 0⟩
  rw [List.getElem?_replicate] at hk
  split at hk
  · cases hk; omega
  · cases hk
theorem offs_pos {ar : List Int} (h : 0 < ar.length) : 0 < offs ar := by
  cases ar with
  | nil => simp at h
  | cons n ar => rw [offs]; omega
theorem c_iSysOkP {v : Value} {s : Sy} {w : World} {b : Bool} (hb : sysOk s = b) (h0 : RdSyC w v s) :
    Calls Try.prog 55 #[v] w fun e w' => e = .returned (.bool b) ∧ Ext w w' :=
  (c_iSystemOk h0).mono fun _ _ ⟨he, hw⟩ => ⟨he.trans (ret_bool hb), hw⟩
theorem triP_out {ar : List Int} {most : Int} (h : inB most 1 3 = false) : triP ar most = -1 := by
  unfold triP
  rw [if_neg]
  rintro ⟨_, h1, h2⟩
  unfold inB at h
  simp at h
  omega
theorem c_rulesB {v0 v1 : Value} {s : Sy} {ps : List Pl} {g : Bool} {w : World} (hg : polyAll true s ps = g) (h0 : RdSyC w v0 s) (h1 : RdPs w v1 ps) (hs : SysP s) (hP : PolysP s.ar ps) :
    Calls Try.prog 62 #[v0, v1, .bool true] w fun e w' => e = .returned (.bool g) ∧ Ext w w' := by subst hg; exact c_polyRules h0 h1 hs hP
set_option maxRecDepth 100000 in
set_option maxHeartbeats 8000000 in
theorem c_iFirstPolys {v0 : Value} {s : Sy} {most : Int} {ps : List Pl} {bb : Bool} {w : World} (hps : fpoV s most = ps) (hbb : (fpoO s most).isSome = bb) (h0 : RdSyC w v0 s) :
    Calls Try.prog 20 #[v0, .int .i64 most] w (NewFs w ps bb) := by
  obtain ⟨A0, n0, c0, B0, m0, d0, rfl, ha, hb⟩ := h0
  have HA := Lib.hid ha
  have HB := Lib.hid hb
  have hn0 := ha.len
  obtain ⟨o, ho⟩ : ∃ o, fpoO s most = o := ⟨_, rfl⟩
  have HPS := Lib.hid (show (o.map (polysOf s.ar)).getD [] = ps by rw [← ho]; exact hps)
  have HBB := Lib.hid (show o.isSome = bb by rw [← ho]; exact hbb)
  have HO := Lib.hid ho
  obtain ⟨tw, htw⟩ : ∃ t, triW s.ar most = t := ⟨_, rfl⟩
  obtain ⟨tp, htp⟩ : ∃ t, triP s.ar most = t := ⟨_, rfl⟩
  have HTP := Lib.hid htp
  have HC := Lib.hid (show ∀ (v : Value) (w : World), RdSig w v s.ar → Calls Try.prog 57 #[v, .int .i64 most] w fun e w' => e = .returned (.tuple #[.int .i64 tw, .int .i64 tp]) ∧ Ext w w' from fun v w h => by rw [← htw, ← htp]; exact c_iTriesFor h)
  obtain ⟨mo, hmo⟩ : ∃ b, inB most 1 3 = b := ⟨_, rfl⟩
  have HMO := Lib.hid hmo
  have HCM := Lib.hid (show ∀ (w : World), Calls Try.prog 56 #[.int .i64 most] w fun e w' => e = .returned (.bool mo) ∧ w = w' from fun w => by rw [← hmo]; exact c_mostOk)
  obtain ⟨i0, hii, hiz, his, hib⟩ := info_parts int64_info
  have HNO := Lib.hid (show o = none → ∀ {w' : World}, Ext w w' → NewFs w ps bb (.returned (.tuple #[.slice none 0 0, .bool false])) w' from fun h w' hE => by
    have hp0 : ps = [] := by rw [← HPS.out, h]; rfl
    have hb0 : bb = false := by rw [← HBB.out, h]; rfl
    subst hp0; subst hb0
    exact ⟨none, 0, 0, rfl, OwD.nil _ _ _, hE⟩)
  clear ha hb hps hbb ho htw htp hmo
  cases hs : sysOk s with
  | false =>
    have HN := Lib.hid (show o = none by rw [← HO.out]; exact fpoO_no (fun h => by rw [hs] at h; cases h.1))
    go_enter Try.func20, Try.ntmps20
    go_wp2_with fail
    (with_reducible refine (c_iSysOkP hs (by (first | (first | (with_reducible exact RdI.mk (RI.ext (Hid.out (by with_reducible assumption)) (by exact extX))) | (with_reducible exact RdI.ext (by with_reducible assumption) (by exact extX))) | (with_reducible exact RdSyK.mk (by (first | (with_reducible exact RI.ext (Hid.out (by with_reducible assumption)) (by exact extX)))) (RR.ext (Hid.out (by with_reducible assumption)) (by exact extX))) | (with_reducible exact RdSyK.ext (by with_reducible assumption) (by exact extX)) | (with_reducible exact RdPs.mk (RP.ext (Hid.out (by with_reducible assumption)) (by exact extX))) | (with_reducible exact RdPs.ext (by with_reducible assumption) (by exact extX)) | (with_reducible exact RdPl.mk (by (first | (with_reducible exact RI.ext (Hid.out (by with_reducible assumption)) (by exact extX))))) | (with_reducible exact RdPl.ext (by with_reducible assumption) (by exact extX)) | (with_reducible exact RdSig.mk (by (first | (with_reducible exact RI.ext (Hid.out (by with_reducible assumption)) (by exact extX))))) | (with_reducible exact RdSig.ext (by with_reducible assumption) (by exact extX))))).mono ?_); rintro e w1 ⟨rfl, hE1⟩; have hz1 := sz_of hE1; (try simp only [World.size_alloc, World.size_setCell, World.size_drew] at hz1); obtain ⟨hc1, hf1⟩ := bcell hE1; (try have hq1_0 : w.heap.size < w1.heap.size := by omega); (try have hq1_1 : w.heap.size + 1 < w1.heap.size := by omega); (try have hq1_2 : w.heap.size + 1 + 1 < w1.heap.size := by omega); (try have hq1_3 : w.heap.size + 1 + 1 + 1 < w1.heap.size := by omega); (try have hq1_4 : w.heap.size + 1 + 1 + 1 + 1 < w1.heap.size := by omega); (try have hq1_5 : w.heap.size + 1 + 1 + 1 + 1 + 1 < w1.heap.size := by omega)
    go_wp2_with fail
    refine bodyPost_ret (v := .tuple #[.slice none 0 0, .bool false]) (by simp [results, Try.results20, go_sem]) rfl ?_
    exact HNO.out HN.out (by exact extX)
  | true =>
    cases mo with
    | false =>
      have HN := Lib.hid (show o = none by rw [← HO.out]; exact fpoO_no (fun h => by have h1 := triP_out (ar := s.ar) HMO.out; omega))
      go_enter Try.func20, Try.ntmps20
      go_wp2_with fail
      (with_reducible refine (c_iSysOkP hs (by (first | (first | (with_reducible exact RdI.mk (RI.ext (Hid.out (by with_reducible assumption)) (by exact extX))) | (with_reducible exact RdI.ext (by with_reducible assumption) (by exact extX))) | (with_reducible exact RdSyK.mk (by (first | (with_reducible exact RI.ext (Hid.out (by with_reducible assumption)) (by exact extX)))) (RR.ext (Hid.out (by with_reducible assumption)) (by exact extX))) | (with_reducible exact RdSyK.ext (by with_reducible assumption) (by exact extX)) | (with_reducible exact RdPs.mk (RP.ext (Hid.out (by with_reducible assumption)) (by exact extX))) | (with_reducible exact RdPs.ext (by with_reducible assumption) (by exact extX)) | (with_reducible exact RdPl.mk (by (first | (with_reducible exact RI.ext (Hid.out (by with_reducible assumption)) (by exact extX))))) | (with_reducible exact RdPl.ext (by with_reducible assumption) (by exact extX)) | (with_reducible exact RdSig.mk (by (first | (with_reducible exact RI.ext (Hid.out (by with_reducible assumption)) (by exact extX))))) | (with_reducible exact RdSig.ext (by with_reducible assumption) (by exact extX))))).mono ?_); rintro e w1 ⟨rfl, hE1⟩; have hz1 := sz_of hE1; (try simp only [World.size_alloc, World.size_setCell, World.size_drew] at hz1); obtain ⟨hc1, hf1⟩ := bcell hE1; (try have hq1_0 : w.heap.size < w1.heap.size := by omega); (try have hq1_1 : w.heap.size + 1 < w1.heap.size := by omega); (try have hq1_2 : w.heap.size + 1 + 1 < w1.heap.size := by omega); (try have hq1_3 : w.heap.size + 1 + 1 + 1 < w1.heap.size := by omega); (try have hq1_4 : w.heap.size + 1 + 1 + 1 + 1 < w1.heap.size := by omega); (try have hq1_5 : w.heap.size + 1 + 1 + 1 + 1 + 1 < w1.heap.size := by omega)
      go_wp2_with fail
      (with_reducible refine (HCM.out _).mono ?_)
      rintro e w2 ⟨rfl, rfl⟩
      go_wp2_with fail
      refine bodyPost_ret (v := .tuple #[.slice none 0 0, .bool false]) (by simp [results, Try.results20, go_sem]) rfl ?_
      exact HNO.out HN.out (by exact extX)
    | true =>
      by_cases htn : tp < 0
      · have HN := Lib.hid (show o = none by rw [← HO.out]; exact fpoO_no (fun h => by have := HTP.out; omega))
        have htd : decide (tp < 0) = true := by simpa using htn
        go_enter Try.func20, Try.ntmps20
        go_wp2_with fail
        (with_reducible refine (c_iSysOkP hs (by (first | (first | (with_reducible exact RdI.mk (RI.ext (Hid.out (by with_reducible assumption)) (by exact extX))) | (with_reducible exact RdI.ext (by with_reducible assumption) (by exact extX))) | (with_reducible exact RdSyK.mk (by (first | (with_reducible exact RI.ext (Hid.out (by with_reducible assumption)) (by exact extX)))) (RR.ext (Hid.out (by with_reducible assumption)) (by exact extX))) | (with_reducible exact RdSyK.ext (by with_reducible assumption) (by exact extX)) | (with_reducible exact RdPs.mk (RP.ext (Hid.out (by with_reducible assumption)) (by exact extX))) | (with_reducible exact RdPs.ext (by with_reducible assumption) (by exact extX)) | (with_reducible exact RdPl.mk (by (first | (with_reducible exact RI.ext (Hid.out (by with_reducible assumption)) (by exact extX))))) | (with_reducible exact RdPl.ext (by with_reducible assumption) (by exact extX)) | (with_reducible exact RdSig.mk (by (first | (with_reducible exact RI.ext (Hid.out (by with_reducible assumption)) (by exact extX))))) | (with_reducible exact RdSig.ext (by with_reducible assumption) (by exact extX))))).mono ?_); rintro e w1 ⟨rfl, hE1⟩; have hz1 := sz_of hE1; (try simp only [World.size_alloc, World.size_setCell, World.size_drew] at hz1); obtain ⟨hc1, hf1⟩ := bcell hE1; (try have hq1_0 : w.heap.size < w1.heap.size := by omega); (try have hq1_1 : w.heap.size + 1 < w1.heap.size := by omega); (try have hq1_2 : w.heap.size + 1 + 1 < w1.heap.size := by omega); (try have hq1_3 : w.heap.size + 1 + 1 + 1 < w1.heap.size := by omega); (try have hq1_4 : w.heap.size + 1 + 1 + 1 + 1 < w1.heap.size := by omega); (try have hq1_5 : w.heap.size + 1 + 1 + 1 + 1 + 1 < w1.heap.size := by omega)
        go_wp2_with fail
        (with_reducible refine (HCM.out _).mono ?_)
        rintro e w2 ⟨rfl, rfl⟩
        go_wp2_with fail
        (with_reducible refine (HC.out _ _ (by (first | (first | (with_reducible exact RdI.mk (RI.ext (Hid.out (by with_reducible assumption)) (by exact extX))) | (with_reducible exact RdI.ext (by with_reducible assumption) (by exact extX))) | (with_reducible exact RdSyK.mk (by (first | (with_reducible exact RI.ext (Hid.out (by with_reducible assumption)) (by exact extX)))) (RR.ext (Hid.out (by with_reducible assumption)) (by exact extX))) | (with_reducible exact RdSyK.ext (by with_reducible assumption) (by exact extX)) | (with_reducible exact RdPs.mk (RP.ext (Hid.out (by with_reducible assumption)) (by exact extX))) | (with_reducible exact RdPs.ext (by with_reducible assumption) (by exact extX)) | (with_reducible exact RdPl.mk (by (first | (with_reducible exact RI.ext (Hid.out (by with_reducible assumption)) (by exact extX))))) | (with_reducible exact RdPl.ext (by with_reducible assumption) (by exact extX)) | (with_reducible exact RdSig.mk (by (first | (with_reducible exact RI.ext (Hid.out (by with_reducible assumption)) (by exact extX))))) | (with_reducible exact RdSig.ext (by with_reducible assumption) (by exact extX))))).mono ?_); rintro e w3 ⟨rfl, hE3⟩; have hz3 := sz_of hE3; (try simp only [World.size_alloc, World.size_setCell, World.size_drew] at hz3); obtain ⟨hc3, hf3⟩ := bcell hE3; (try have hq3_0 : w.heap.size < w3.heap.size := by omega); (try have hq3_1 : w.heap.size + 1 < w3.heap.size := by omega); (try have hq3_2 : w.heap.size + 1 + 1 < w3.heap.size := by omega); (try have hq3_3 : w.heap.size + 1 + 1 + 1 < w3.heap.size := by omega); (try have hq3_4 : w.heap.size + 1 + 1 + 1 + 1 < w3.heap.size := by omega); (try have hq3_5 : w.heap.size + 1 + 1 + 1 + 1 + 1 < w3.heap.size := by omega); (try have hx3_1 : w1.heap.size < w3.heap.size := by omega); (try have hx3_2 : w2.heap.size < w3.heap.size := by omega)
        go_wp2_with fail
        refine bodyPost_ret (v := .tuple #[.slice none 0 0, .bool false]) (by simp [results, Try.results20, go_sem]) rfl ?_
        exact HNO.out HN.out (by exact extX)
      · have htd : decide (tp < 0) = false := by simpa using htn
        have hm : 1 ≤ most ∧ most ≤ 3 := triP_in (by rw [HTP.out]; omega)
        have hsp := sysOk_iff.1 hs
        have hsg : SigP s.ar := hsp.1
        have h8 : s.ar.length ≤ 8 := hsg.2.1
        have HS3 := Lib.hid (show ∀ n ∈ s.ar, 0 ≤ n ∧ n ≤ 3 from fun n hn => hsg.2.2 n hn)
        have hof : ∀ k, offs (s.ar.take k) ≤ 32 := fun k => by have := offs_bd HS3.out; have := offs_le s.ar k; omega
        have HSP := Lib.hid hsp
        have HSO := Lib.hid hs
        have HW0 := Lib.hid (OnWay.start (T := TF s) (o := o) (lowL_btw hm.1 s.ar) (by rw [← HO.out]; unfold fpoO; rw [if_pos ⟨hs, by rw [HTP.out]; omega⟩]))
        obtain ⟨N, hN⟩ : ∃ N, N = offs s.ar := ⟨_, rfl⟩
        have hN32 : N ≤ 32 := by have := hof s.ar.length; rw [List.take_length] at this; omega
        have hNpos : 0 < N := by rw [hN]; exact offs_pos hsg.1
        rw [← hN] at HW0
        have HNN := Lib.hid hN
        have HM := Lib.hid hm
        clear hsp hsg hN
        go_enter Try.func20, Try.ntmps20
        go_wp2_with fail
        (with_reducible refine (c_iSysOkP hs (by (first | (first | (with_reducible exact RdI.mk (RI.ext (Hid.out (by with_reducible assumption)) (by exact extX))) | (with_reducible exact RdI.ext (by with_reducible assumption) (by exact extX))) | (with_reducible exact RdSyK.mk (by (first | (with_reducible exact RI.ext (Hid.out (by with_reducible assumption)) (by exact extX)))) (RR.ext (Hid.out (by with_reducible assumption)) (by exact extX))) | (with_reducible exact RdSyK.ext (by with_reducible assumption) (by exact extX)) | (with_reducible exact RdPs.mk (RP.ext (Hid.out (by with_reducible assumption)) (by exact extX))) | (with_reducible exact RdPs.ext (by with_reducible assumption) (by exact extX)) | (with_reducible exact RdPl.mk (by (first | (with_reducible exact RI.ext (Hid.out (by with_reducible assumption)) (by exact extX))))) | (with_reducible exact RdPl.ext (by with_reducible assumption) (by exact extX)) | (with_reducible exact RdSig.mk (by (first | (with_reducible exact RI.ext (Hid.out (by with_reducible assumption)) (by exact extX))))) | (with_reducible exact RdSig.ext (by with_reducible assumption) (by exact extX))))).mono ?_); rintro e w1 ⟨rfl, hE1⟩; have hz1 := sz_of hE1; (try simp only [World.size_alloc, World.size_setCell, World.size_drew] at hz1); obtain ⟨hc1, hf1⟩ := bcell hE1; (try have hq1_0 : w.heap.size < w1.heap.size := by omega); (try have hq1_1 : w.heap.size + 1 < w1.heap.size := by omega); (try have hq1_2 : w.heap.size + 1 + 1 < w1.heap.size := by omega); (try have hq1_3 : w.heap.size + 1 + 1 + 1 < w1.heap.size := by omega); (try have hq1_4 : w.heap.size + 1 + 1 + 1 + 1 < w1.heap.size := by omega); (try have hq1_5 : w.heap.size + 1 + 1 + 1 + 1 + 1 < w1.heap.size := by omega)
        go_wp2_with fail
        (with_reducible refine (HCM.out _).mono ?_)
        rintro e w2 ⟨rfl, rfl⟩
        go_wp2_with fail
        (with_reducible refine (HC.out _ _ (by (first | (first | (with_reducible exact RdI.mk (RI.ext (Hid.out (by with_reducible assumption)) (by exact extX))) | (with_reducible exact RdI.ext (by with_reducible assumption) (by exact extX))) | (with_reducible exact RdSyK.mk (by (first | (with_reducible exact RI.ext (Hid.out (by with_reducible assumption)) (by exact extX)))) (RR.ext (Hid.out (by with_reducible assumption)) (by exact extX))) | (with_reducible exact RdSyK.ext (by with_reducible assumption) (by exact extX)) | (with_reducible exact RdPs.mk (RP.ext (Hid.out (by with_reducible assumption)) (by exact extX))) | (with_reducible exact RdPs.ext (by with_reducible assumption) (by exact extX)) | (with_reducible exact RdPl.mk (by (first | (with_reducible exact RI.ext (Hid.out (by with_reducible assumption)) (by exact extX))))) | (with_reducible exact RdPl.ext (by with_reducible assumption) (by exact extX)) | (with_reducible exact RdSig.mk (by (first | (with_reducible exact RI.ext (Hid.out (by with_reducible assumption)) (by exact extX))))) | (with_reducible exact RdSig.ext (by with_reducible assumption) (by exact extX))))).mono ?_); rintro e w3 ⟨rfl, hE3⟩; have hz3 := sz_of hE3; (try simp only [World.size_alloc, World.size_setCell, World.size_drew] at hz3); obtain ⟨hc3, hf3⟩ := bcell hE3; (try have hq3_0 : w.heap.size < w3.heap.size := by omega); (try have hq3_1 : w.heap.size + 1 < w3.heap.size := by omega); (try have hq3_2 : w.heap.size + 1 + 1 < w3.heap.size := by omega); (try have hq3_3 : w.heap.size + 1 + 1 + 1 < w3.heap.size := by omega); (try have hq3_4 : w.heap.size + 1 + 1 + 1 + 1 < w3.heap.size := by omega); (try have hq3_5 : w.heap.size + 1 + 1 + 1 + 1 + 1 < w3.heap.size := by omega); (try have hx3_1 : w1.heap.size < w3.heap.size := by omega); (try have hx3_2 : w2.heap.size < w3.heap.size := by omega)
        obtain ⟨wb, hwb⟩ : ∃ wb, wb = w.alloc (.cells #[.slice A0 n0 c0, .slice B0 m0 d0] 34) := ⟨_, rfl⟩
        have hb1 : wb.cell? ⟨w.heap.size, 1, none⟩ = some (.slice B0 m0 d0) := by rw [hwb]; simp [go_sem]
        have hb0 : wb.cell? ⟨w.heap.size, 0, none⟩ = some (.slice A0 n0 c0) := by rw [hwb]; simp [go_sem]
        have HEwb := Lib.hid (show Ext w wb by rw [hwb]; exact extX)
        have hEb3 : Ext wb w3 := by rw [hwb]; exact extX
        have HB3 := Lib.hid hEb3
        have HE3w := Lib.hid (Ext.trans HEwb.out hEb3)
        have k0 := Ext.keep hEb3 hb0
        have k1 := Ext.keep hEb3 hb1
        clear hwb hE1 hE3 hEb3
        go_wp2_with fail
        go_loopw [8, 36] (fun lv iv wr => ∃ k : Nat, iv = .int .i64 k ∧ k ≤ n0 ∧ (∃ A c, lv = .slice A (offs (s.ar.take k)) c ∧ Hid (OwI wr w3.heap.size A (offs (s.ar.take k)) c (lowL (s.ar.take k)))) ∧ Hid (Ext w3 wr)) (fun _ iv _ => n0 - (intOf iv).toNat)
        case atStart => exact ⟨0, rfl, Nat.zero_le _, ⟨none, 0, rfl, Lib.hid (show OwI w3 w3.heap.size none 0 0 [] from ⟨by omega, World.ownsRow_nil _ _ _ _⟩)⟩, Lib.hid (Ext.refl _)⟩
        case round =>
          obtain ⟨k, rfl, hk, ⟨LA, lc, rfl, hL⟩, hE⟩ := hrel
          have HEr := Lib.hid (Ext.trans HE3w.out hE.out)
          have hr0 := Ext.keep hE.out k0
          have hr1 := Ext.keep hE.out k1
          by_cases hlt : k < n0
          · obtain ⟨b, oo, z, rfl, hz, hcz⟩ := RI.at_ (RI.ext HA.out HEr.out) hlt
            have hzb := HS3.out z (List.mem_of_getElem? hz)
            obtain ⟨m, rfl⟩ := Int.eq_ofNat_of_zero_le hzb.1
            have hm3 : m ≤ 3 := by omega
            have HZ := Lib.hid hz
            have hki : (k : Int) < (n0 : Int) := by omega
            have hk0 : (0 : Int) ≤ (k : Int) := by omega
            have hofk := hof k
            obtain ⟨p, hp⟩ : ∃ p, p = offs (s.ar.take k) := ⟨_, rfl⟩
            rw [← hp] at hL hofk ⊢
            have HPP := Lib.hid hp
            have hsr := hE.out.size
            have HF := Lib.hid (OwI.freshP (w := wr) 0).ri
            have hcp := hL.out.cap
            have hob := hL.out.ob2
            clear hz hp
            go_wp2_with (at_builtin; go_loud (refine wpList_append_ints rfl (.tmp 40) (.tmp 41) 22 rfl i0 Try.underlying22 hii hiz his hib (D := w3.heap.size) rfl (OwI.alloc hL.out _) rfl (show RI (wr.alloc (.cells #[.int .i64 0] 2)) (some ⟨wr.heap.size, 0, none⟩) 1 [0] from HF.out) (by omega) (by simp only [World.size_alloc]; omega) hcp.1 ?_))
            intro A4 c4 w4 hO4 hg4 hat4
            have hE4 : Ext w3 w4 := Ext.grown (hE.out.alloc _) hg4 (fun b hb => (hob b hb).1)
            have HO4 := Lib.hid hO4
            clear hO4 hg4 hat4 hob HF hcp
            go_wp2_with fail
            (with_reducible refine (c_repeated (n := m) (by omega)).mono ?_)
            rintro e w5 ⟨RA, rn, rc, rfl, hR5, hE5⟩
            have hrn : rn = m := by rw [← hR5.len]; simp
            subst hrn
            have HR5 := Lib.hid hR5.ri
            have HO5 := Lib.hid (HO4.out.ext hE5)
            have hE35 := Ext.trans hE4 hE5
            have hcp := HO5.out.cap
            have hob := HO5.out.ob2
            have hs5 := hE35.size
            clear hR5
            go_wp2_with (at_builtin; go_loud (refine wpList_append_ints rfl (.tmp 43) (.tmp 45) 22 rfl i0 Try.underlying22 hii hiz his hib (D := w3.heap.size) rfl HO5.out rfl HR5.out (by omega) hs5 hcp.1 ?_))
            intro A6 c6 w6 hO6 hg6 hat6
            have hE6 : Ext w3 w6 := Ext.grown hE35 hg6 (fun b hb => (hob b hb).1)
            have hlen : offs (s.ar.take (k + 1)) = p + 1 + rn := by rw [offs_succ HZ.out, ← HPP.out, Int.toNat_natCast]; omega
            have HO6 := Lib.hid (show OwI w6 w3.heap.size A6 (offs (s.ar.take (k + 1))) c6 (lowL (s.ar.take (k + 1))) from by
              rw [hlen, lowL_succ HZ.out, Int.toNat_natCast]; simpa using hO6)
            clear hO6 hg6 hat6 hob hcp
            go_wp2
            go_roundw
            case rel => exact ⟨k + 1, by go_num, by omega, ⟨A6, c6, by rw [hlen], HO6⟩, Lib.hid hE6⟩
            case measure => simp only [intOf]; omega
          · obtain rfl : k = n0 := by omega
            have HT := Lib.hid (show s.ar.take k = s.ar from List.take_of_length_le (by omega))
            have HL := Lib.hid (show OwI wr w3.heap.size LA N lc (lowL s.ar) from by have h := hL.out; rwa [HT.out, ← HNN.out] at h)
            rw [HT.out, ← HNN.out]
            have hErb := Ext.trans HB3.out hE.out
            have HLR := Lib.hid HL.out.ri
            have HLB := Lib.hid HL.out.bd
            clear hL HT HL
            go_wp2_with fail
            (with_reducible refine (c_clone HLR.out).mono ?_)
            rintro e w4 ⟨XA, xn, xc, rfl, hX4, hE4⟩
            have hxn : xn = N := by have h1 := hX4.len; have h2 := HLR.out.len; omega
            subst hxn
            obtain ⟨g, rfl, hgB, hgl⟩ : ∃ g, XA = some ⟨g, 0, none⟩ ∧ wr.heap.size ≤ g ∧ g < w4.heap.size := by
              rcases hX4.form with ⟨_, h0, _⟩ | h
              · omega
              · exact h
            have hcp4 := hX4.cap
            have HX4 := Lib.hid hX4
            have HL4 := Lib.hid (RI.ext HLR.out hE4)
            have HEbr := Lib.hid hErb
            obtain ⟨wq, hwq⟩ : ∃ wq, wq = wr := ⟨_, rfl⟩
            rw [← hwq] at HEr HEbr HX4 HLB HLR hgB hE4
            have HE4 := Lib.hid hE4
            clear hX4 hr0 hr1 k0 k1 hwq hE hErb hE4 HB3 HE3w
            go_wp2_with fail
            go_loopw [12] (fun mv wr => ∃ more : Bool, mv = .bool more ∧ Hid ((more = true → ∃ k xs, OwI wr wq.heap.size (some ⟨g, 0, none⟩) xn xc xs ∧ OnWay (TF s) (lowL s.ar) (List.replicate xn most) o k xs) ∧ (more = false → o = none)) ∧ Hid (Ext wq wr)) (fun mv wr => ipMeas (TF s) (lowL s.ar) (List.replicate xn most) o wq.heap.size g xn xc mv wr)
            case atStart => exact ⟨true, rfl, Lib.hid ⟨fun _ => ⟨_, _, HX4.out, HW0.out⟩, fun h => by cases h⟩, HE4⟩
            case round =>
              obtain ⟨more, rfl, hI, hEr⟩ := hrel
              have hErb := Ext.trans HEbr.out hEr.out
              have HErw := Lib.hid (Ext.trans HEwb.out hErb)
              have k0 := Ext.keep hErb hb0
              have k1 := Ext.keep hErb hb1
              cases more with
              | false =>
                have HN := Lib.hid (hI.out.2 rfl)
                go_wp2_with fail
                refine bodyPost_ret (v := .tuple #[.slice none 0 0, .bool false]) (by simp [results, Try.results20, go_sem]) rfl ?_
                exact HNO.out HN.out HErw.out
              | true =>
                have hex : ∃ k, ∃ xs, OwI wr wq.heap.size (some ⟨g, 0, none⟩) xn xc xs ∧ OnWay (TF s) (lowL s.ar) (List.replicate xn most) o k xs := hI.out.1 rfl
                obtain ⟨⟨xs, hX, hW⟩, _⟩ := leastOf_spec hex
                have HX := Lib.hid hX
                have HW := Lib.hid hW
                have hor := orients_at HSO.out HM.out (by have := hW.btw; rwa [HNN.out] at this)
                have HPP := Lib.hid hor.1
                clear hX hW hex hor
                go_wp2_with fail
                (with_reducible refine (c_polysBy (RdSig.mk (RI.ext HA.out HErw.out)) h8 HS3.out HX.out.ri HNN.out hcp4).mono ?_)
                rintro e w5 ⟨PA, pn, pc, RA, rn, rc, rfl, hP5, hE5⟩
                have hE5b := Ext.trans hErb hE5
                have HE5w := Lib.hid (Ext.trans HErw.out hE5)
                have HP5 := Lib.hid hP5
                have HR5 := Lib.hid (OwQ.rp (OwD.q hP5))
                have m0' := Ext.keep hE5b hb0
                have m1' := Ext.keep hE5b hb1
                obtain ⟨gb, hgb⟩ : ∃ gb, polyAll true s (polysOf s.ar xs) = gb := ⟨_, rfl⟩
                have HG := Lib.hid hgb
                clear hP5 k0 k1 hgb
                go_wp2_with fail
                (with_reducible refine (c_rulesB HG.out (RdSyK.mk (RI.ext HA.out HE5w.out) (RR.ext HB.out HE5w.out)) (RdPs.mk HR5.out) HSP.out HPP.out).mono ?_)
                rintro e w6 ⟨rfl, hE6⟩
                have HE6 := Lib.hid (Ext.trans hEr.out (Ext.trans hE5 hE6))
                have HE6w := Lib.hid (Ext.trans HE5w.out hE6)
                cases gb with
                | true =>
                  have ho : o = some xs := HW.out.yes HG.out
                  go_wp2_with fail
                  refine bodyPost_ret (v := .tuple #[.slice PA pn pc, .bool true]) (by simp [results, Try.results20, go_sem]) rfl ?_
                  have hp0 : ps = polysOf s.ar xs := by rw [← HPS.out, ho]; rfl
                  have hb0' : bb = true := by rw [← HBB.out, ho]; rfl
                  subst hp0; subst hb0'
                  exact ⟨PA, pn, pc, rfl, ((HP5.out.ext hE6).mono hE6.size).lower HErw.out.size, HE6w.out⟩
                | false =>
                  have hgo : ¬ TF s xs := fun h => by have h2 : polyAll true s (polysOf s.ar xs) = true := h; rw [HG.out] at h2; cases h2
                  rcases hup : up xs (lowL s.ar) (List.replicate xn most) with ⟨ys, b2⟩
                  have HUP := Lib.hid hup
                  have HNX := Lib.hid (show (b2 = true → ∃ m, m < leastOf (fun k => ∃ xs, OwI wr wq.heap.size (some ⟨g, 0, none⟩) xn xc xs ∧ OnWay (TF s) (lowL s.ar) (List.replicate xn most) o k xs) ∧ OnWay (TF s) (lowL s.ar) (List.replicate xn most) o m ys) ∧ (b2 = false → o = none) from ⟨fun e => by subst e; exact HW.out.next hgo hup, fun e => by subst e; exact HW.out.stop hgo hup⟩)
                  have HX6 := Lib.hid (HX.out.ext (Ext.trans hE5 hE6))
                  clear hup m0' m1'
                  go_wp2_with fail
                  (with_reducible refine (c_repeated (n := xn) (by omega)).mono ?_)
                  rintro e w7 ⟨HA7, hn, hc, rfl, hH7, hE7⟩
                  have hhn : hn = xn := by rw [← hH7.len]; simp
                  subst hhn
                  have HH7 := Lib.hid hH7.ri
                  have HHB := Lib.hid hH7.bd
                  have HX7 := Lib.hid (HX6.out.ext hE7)
                  have HE7 := Lib.hid (Ext.trans HE6.out hE7)
                  have hg6 : g < w6.heap.size := (HX6.out.bd g 0 none rfl).2
                  clear hH7
                  go_wp2_with fail
                  (with_reducible refine (c_countUp HUP.out HX7.out (RI.ext HLR.out HE7.out) HH7.out HW.out.btw (fun g1 o1 s1 g' o' s' e e' => by cases e; have := (HLB.out _ _ _ e').2; omega) (fun g1 o1 s1 g' o' s' e e' => by cases e; have := (HHB.out _ _ _ e').1; omega) (low_big HM.out.2 s.ar hn)).mono ?_)
                  rintro e w8 ⟨rfl, hY8, hA8⟩
                  have hE8 : Ext wq w8 := OnlyA.ext hA8 HE7.out (fun g o s e => by cases e; exact hgB)
                  have HY8 := Lib.hid hY8
                  clear hY8 hA8
                  go_wp2_with fail
                  go_roundw
                  case rel => exact ⟨b2, rfl, Lib.hid ⟨fun e => by
                    obtain ⟨m, _, hm⟩ := HNX.out.1 e
                    exact ⟨m, ys, HY8.out, hm⟩, HNX.out.2⟩, Lib.hid hE8⟩
                  case measure =>
                    rw [ipMeas_t]
                    cases b2 with
                    | false => rw [ipMeas_f]; omega
                    | true =>
                      rw [ipMeas_t]
                      obtain ⟨m, hm1', hm2⟩ := HNX.out.1 rfl
                      have := leastOf_le (R := fun k => ∃ xs, OwI w8 wq.heap.size (some ⟨g, 0, none⟩) hn xc xs ∧ OnWay (TF s) (lowL s.ar) (List.replicate hn most) o k xs) ⟨ys, HY8.out, hm2⟩
                      omega

end Go.Proofs.Ytjmdfjinicbkeaa
