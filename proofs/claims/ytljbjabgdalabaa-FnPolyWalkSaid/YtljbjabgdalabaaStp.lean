/- Several texts in one: StpA, StpB, StpC, StpD, StpE. -/
import Derived.Test.YtljbjabgdalabaaFil
import Derived.Test.YtljbjabgdalabaaMStep
import Derived.Test.YtljbjabgdalabaaDicU
import Derived.Test.YtljbjabgdalabaaSysOk
-- rd: RdSyK
namespace Go.Proofs.Ytljbjabgdalabaa
open Go.RowKit
set_option linter.unusedSimpArgs false
set_option linter.unusedVariables false

/-! Steps by the reference: a part of a term, and a term with another part. -/
theorem RI.seg {w : World} {b o n : Nat} {xs ys rest : List Int} {p : Nat} (h : RI w (some ⟨b, o, none⟩) n xs) (hd : xs.drop p = ys ++ rest) : RI w (some ⟨b, o + p, none⟩) ys.length ys := by
  have hl := h.len
  have hle := h.le
  have e := congrArg List.length hd
  rw [List.length_drop, List.length_append] at e
  refine ⟨⟨rfl, by omega⟩, fun h0 => ?_⟩
  obtain ⟨b', o', e', hc⟩ := h.2 (by omega)
  cases e'
  refine ⟨b, o + p, rfl, fun j x hx => ?_⟩
  rw [Nat.add_assoc]
  refine hc (p + j) x ?_
  rw [← List.getElem?_drop, hd, List.getElem?_append_left (List.getElem?_eq_some_iff.1 hx).1]; exact hx
theorem RI.init {w : World} {A : Option Addr} {n k : Nat} {xs : List Int} (h : RI w A n xs) (hk : k ≤ n) : RI w A k (xs.take k) := by
  refine ⟨⟨by rw [List.length_take, h.len]; omega, by have := h.le; omega⟩, fun h0 => ?_⟩
  obtain ⟨b, o, e, hc⟩ := h.2 (by omega)
  refine ⟨b, o, e, fun j x hx => hc j x ?_⟩
  rw [List.getElem?_take] at hx
  split at hx
  · exact hx
  · cases hx
theorem c_l1EndT {v0 v1 : Value} {ar t : List Int} {p f : Nat} {w : World} (hf : endS ar t p = (f : Int)) (h0 : RdSig w v0 ar) (h1 : RdI w v1 t) (hs : SigP ar) (hp : p ≤ t.length) :
    Calls Try.prog 69 #[v0, v1, .int .i64 (p : Int)] w fun e w' => e = .returned (.int .i64 (f : Int)) ∧ Ext w w' := by
  rw [← hf]
  have := c_l1End (p := (p : Int)) h0 h1 hs (by omega) (by omega)
  simpa using this
set_option maxRecDepth 100000 in
set_option maxHeartbeats 2000000 in
theorem c_l1SubT {v0 : Value} {ar t : List Int} {p : Nat} {A : Option Addr} {n c : Nat} {w : World} (h0 : RdSig w v0 ar) (h1 : RI w A n t) (hc : n ≤ c ∧ c ≤ 9223372036854775807) (ht : TermP ar t) (hp : p < t.length) :
    Calls Try.prog 95 #[v0, .slice A n c, .int .i64 (p : Int)] w (NewI w (subT ar t p).flat) := by
  obtain ⟨D, q, l, rfl, hd⟩ := h0
  obtain ⟨oS, rest, hdr⟩ := subT_ok ht hp
  have hln := h1.len
  have hpos := flat_pos (subT ar t p)
  have hle : p + (subT ar t p).flat.length ≤ n := by
    have := congrArg List.length hdr
    rw [List.length_drop, List.length_append] at this
    omega
  obtain ⟨b, o, hA⟩ : ∃ b o, A = some ⟨b, o, none⟩ := by obtain ⟨b, o, e, _⟩ := h1.2 (by omega); exact ⟨b, o, e⟩
  subst hA
  obtain ⟨f, hf⟩ : ∃ f : Nat, f = p + (subT ar t p).flat.length := ⟨_, rfl⟩
  have HF := Lib.hid (show endS ar t p = (f : Int) by rw [hf]; exact endS_sub ht.2.2.1 oS hdr)
  have HD := Lib.hid hd
  have H1 := Lib.hid h1
  have HS := Lib.hid ht.1
  have HL := Lib.hid (show p ≤ t.length by omega)
  have hfp : p < f := by omega
  have HSUB := Lib.hid (show RI w (some ⟨b, o + p, none⟩) (f - p) (subT ar t p).flat by rw [hf, Nat.add_sub_cancel_left]; exact RI.seg h1 hdr)
  have hpi : (p : Int) ≤ (f : Int) := by omega
  have hp0 : (0 : Int) ≤ (p : Int) := by omega
  have hfc : (f : Int) ≤ (c : Int) := by omega
  have hc1 : ¬ c = p := by omega
  clear hd h1 hf hdr ht hln
  go_enter Try.func95, Try.ntmps95
  go_wp2_with fail
  (with_reducible refine (c_l1EndT HF.out (RdSig.mk (RI.ext HD.out (by exact extX))) (RdI.mk (RI.ext H1.out (by exact extX))) HS.out HL.out).mono ?_)
  rintro e w2 ⟨rfl, hE2⟩
  go_wp2_with fail
  (with_reducible refine (c_l1Copy (RI.ext HSUB.out (by exact extX))).mono ?_)
  rintro e w3 ⟨A3, n3, c3, rfl, hO3, hE3⟩
  have HO3 := Lib.hid (hO3.lower (B' := w.heap.size) (by have := hE2.size; simp at this; omega))
  clear hO3
  go_wp2
  go_ret
  exact ⟨A3, n3, c3, rfl, HO3.out, by exact extX⟩
def putO (t : List Int) (p f : Nat) (v : List Int) : Option (List Int) := if (t.take p ++ v ++ t.drop f).length ≤ 60 then some (t.take p ++ v ++ t.drop f) else none
set_option maxRecDepth 100000 in
set_option maxHeartbeats 4000000 in
theorem c_l3Put {v0 : Value} {ar t v : List Int} {p : Nat} {A B : Option Addr} {n c m d : Nat} {w : World} (h0 : RdSig w v0 ar) (h1 : RI w A n t) (hc : n ≤ c ∧ c ≤ 9223372036854775807) (h2 : RI w B m v) (ht : TermP ar t) (hp : p < t.length) (hm : m ≤ 60) :
    Calls Try.prog 96 #[v0, .slice A n c, .int .i64 (p : Int), .slice B m d] w (NewFo w (putO t p (p + (subT ar t p).flat.length) v)) := by
  obtain ⟨D, q, l, rfl, hd⟩ := h0
  obtain ⟨oS, rest, hdr⟩ := subT_ok ht hp
  have hln := h1.len
  have hpos := flat_pos (subT ar t p)
  have hn60 : n ≤ 60 := by rw [← hln]; exact ht.2.1.2
  have hle : p + (subT ar t p).flat.length ≤ n := by
    have := congrArg List.length hdr
    rw [List.length_drop, List.length_append] at this
    omega
  obtain ⟨b, o, hA⟩ : ∃ b o, A = some ⟨b, o, none⟩ := by obtain ⟨b, o, e, _⟩ := h1.2 (by omega); exact ⟨b, o, e⟩
  subst hA
  obtain ⟨f, hf⟩ : ∃ f : Nat, f = p + (subT ar t p).flat.length := ⟨_, rfl⟩
  rw [← hf] at hle ⊢
  have HF := Lib.hid (show endS ar t p = (f : Int) by rw [hf]; exact endS_sub ht.2.2.1 oS hdr)
  have HD := Lib.hid hd
  have H1 := Lib.hid h1
  have H2 := Lib.hid h2
  have HS := Lib.hid ht.1
  have HL := Lib.hid (show p ≤ t.length by omega)
  have HT1 := Lib.hid (h1.init (show p ≤ n by omega))
  have HT2 := Lib.hid (show RI w (some ⟨b, o + f, none⟩) (n - f) (t.drop f) by
    have := RI.seg (p := f) (ys := t.drop f) (rest := []) h1 (by simp)
    rwa [List.length_drop, hln] at this)
  have HNF := Lib.hid (show n - f = 0 → t.drop f = [] from fun e => List.length_eq_zero_iff.1 (by rw [List.length_drop]; omega))
  have HLN := Lib.hid hln
  have hpi : (p : Int) ≤ (c : Int) := by omega
  have hp0 : (0 : Int) ≤ (p : Int) := by omega
  have hf0 : (0 : Int) ≤ (f : Int) := by omega
  have hpn : p < n := by omega
  have hfn : (f : Int) ≤ (n : Int) := by omega
  obtain ⟨i0, hii, hiz, his, hib⟩ := info_parts int64_info
  clear hd h1 h2 hf hdr ht hln
  go_enter Try.func96, Try.ntmps96
  go_wp2_with fail
  obtain ⟨w1, hw1⟩ : ∃ w1, w1 = w.alloc (.cells #[.slice D q l] 29) := ⟨_, rfl⟩
  have hb1 : w1.cell? ⟨w.heap.size, 0, none⟩ = some (.slice D q l) := by rw [hw1]; simp [go_sem]
  have hE1 : Ext w w1 := by rw [hw1]; exact extX
  rw [← hw1]
  clear hw1
  (with_reducible refine (c_l1Copy (RI.ext HT1.out hE1)).mono ?_)
  rintro e w2 ⟨A2, n2, c2, rfl, hO2, hE2⟩
  have hl2 := hO2.len
  rw [List.length_take, HLN.out] at hl2
  obtain rfl : n2 = p := by omega
  have hcp2 := hO2.cap
  have hs2 := hE2.size
  have HO2 := Lib.hid hO2
  clear hO2 hl2
  go_wp2_with (at_builtin; go_loud (refine wpList_append_ints rfl (.tmp 14) (.tmp 15) 27 rfl i0 Try.underlying27 hii hiz his hib (D := w1.heap.size) rfl HO2.out rfl (RI.ext H2.out (by exact extX)) (by omega) (by omega) hcp2.1 ?_))
  intro A3 c3 w3 hO3 hg3 hat3
  have hob3 := OwI.ob2 HO2.out
  have hE3 : Ext w1 w3 := Ext.grown hE2 hg3 (fun b hb => (hob3 b hb).1)
  have HO3 := Lib.hid hO3
  have hb3 := Ext.keep hE3 hb1
  have hEw3 := Ext.trans hE1 hE3
  clear hO3 hg3 hat3 hob3
  go_wp2_with fail
  (with_reducible refine (c_l1EndT HF.out (RdSig.mk (RI.ext HD.out hEw3)) (RdI.mk (RI.ext H1.out hEw3)) HS.out HL.out).mono ?_)
  rintro e w4 ⟨rfl, hE4⟩
  have HO4 := Lib.hid (HO3.out.ext hE4)
  have hcp4 := HO4.out.cap
  have hEw4 := Ext.trans hEw3 hE4
  have hE14 := Ext.trans hE3 hE4
  have hs4 := hE14.size
  have hl4 := HO4.out.len
  by_cases hcf : c = f
  · have hnf : n = f := by omega
    subst hcf
    subst hnf
    have HZ := Lib.hid (HNF.out (by omega))
    have hci : ((n : Nat) : Int) ≤ (n : Int) := Int.le_refl _
    go_wp2_with (at_builtin; go_loud (refine wpList_append_ints rfl (.tmp 17) (.tmp 23) 27 rfl i0 Try.underlying27 hii hiz his hib (D := w1.heap.size) rfl HO4.out rfl (m := 0) (ys := []) (by first | exact RI.nil _ _ | (rw [Nat.sub_self]; exact RI.nil _ _)) (by omega) (by omega) hcp4.1 ?_))
    intro A5 c5 w5 hO5 hg5 hat5
    have hob5 := OwI.ob2 HO4.out
    have hE5 : Ext w1 w5 := Ext.grown hE14 hg5 (fun b hb => (hob5 b hb).1)
    have HO5 := Lib.hid (show OwI w5 w1.heap.size A5 (n2 + m) c5 (t.take n2 ++ v ++ t.drop n) by rw [HZ.out]; simpa using hO5)
    have hEw5 := Ext.trans hE1 hE5
    have hl5 := HO5.out.len
    clear hO5 hg5 hat5 hob5
    by_cases h60 : n2 + m ≤ 60
    · have h60i : ¬ (((n2 + m : Nat) : Int) > 60) := by omega
      have HSO := Lib.hid (show putO t n2 n v = some (t.take n2 ++ v ++ t.drop n) from if_pos (by omega))
      go_wp2_with fail
      refine bodyPost_ret (v := .tuple #[.slice A5 (n2 + m) c5, .bool true]) (by simp [results, Try.results96, go_sem]) rfl ?_
      rw [HSO.out]
      exact ⟨A5, _, c5, rfl, HO5.out.lower (by have := hE1.size; omega), hEw5⟩
    · have h60i : ((n2 + m : Nat) : Int) > 60 := by omega
      have HNO := Lib.hid (show putO t n2 n v = none from if_neg (by omega))
      go_wp2_with fail
      refine bodyPost_ret (v := .tuple #[.slice (some ⟨w5.heap.size, 0, none⟩) 0 0, .bool false]) (by simp [results, Try.results96, go_sem]) rfl ?_
      rw [HNO.out]
      exact ⟨_, 0, 0, rfl, (OwI.none0 (Nat.le_refl _)).lower (by have := hE5.size; have := hE1.size; omega), hEw5.alloc _⟩
  · have hci : (f : Int) ≤ (c : Int) := by omega
    go_wp2_with (at_builtin; go_loud (refine wpList_append_ints rfl (.tmp 17) (.tmp 23) 27 rfl i0 Try.underlying27 hii hiz his hib (D := w1.heap.size) rfl HO4.out rfl (RI.ext HT2.out hEw4) (by omega) (by omega) hcp4.1 ?_))
    intro A5 c5 w5 hO5 hg5 hat5
    have hob5 := OwI.ob2 HO4.out
    have hE5 : Ext w1 w5 := Ext.grown hE14 hg5 (fun b hb => (hob5 b hb).1)
    have HO5 := Lib.hid (show OwI w5 w1.heap.size A5 (n2 + m + (n - f)) c5 (t.take n2 ++ v ++ t.drop f) by simpa using hO5)
    have hEw5 := Ext.trans hE1 hE5
    have hl5 := HO5.out.len
    clear hO5 hg5 hat5 hob5
    by_cases h60 : n2 + m + (n - f) ≤ 60
    · have h60i : ¬ (((n2 + m + (n - f) : Nat) : Int) > 60) := by omega
      have HSO := Lib.hid (show putO t n2 f v = some (t.take n2 ++ v ++ t.drop f) from if_pos (by omega))
      go_wp2_with fail
      refine bodyPost_ret (v := .tuple #[.slice A5 (n2 + m + (n - f)) c5, .bool true]) (by simp [results, Try.results96, go_sem]) rfl ?_
      rw [HSO.out]
      exact ⟨A5, _, c5, rfl, HO5.out.lower (by have := hE1.size; omega), hEw5⟩
    · have h60i : ((n2 + m + (n - f) : Nat) : Int) > 60 := by omega
      have HNO := Lib.hid (show putO t n2 f v = none from if_neg (by omega))
      go_wp2_with fail
      refine bodyPost_ret (v := .tuple #[.slice (some ⟨w5.heap.size, 0, none⟩) 0 0, .bool false]) (by simp [results, Try.results96, go_sem]) rfl ?_
      rw [HNO.out]
      exact ⟨_, 0, 0, rfl, (OwI.none0 (Nat.le_refl _)).lower (by have := hE5.size; have := hE1.size; omega), hEw5.alloc _⟩

/-! Steps by the reference: the plain form of a list of terms for variables, and matching. -/
/-- A row of lists in blocks from lo on. -/
def RSo (lo : Nat) (w : World) (A : Option Addr) (n : Nat) (xss : List (List Int)) : Prop :=
  (xss.length = n ∧ n ≤ 4194304) ∧ ∀ (j : Nat) (xs : List Int), xss[j]? = some xs → ∃ b o A' m' c', A = some ⟨b, o, none⟩ ∧ lo ≤ b ∧ w.cell? ⟨b, o + j, none⟩ = some (.slice A' m' c') ∧ RI w A' m' xs ∧ ∀ b' o' s', A' = some ⟨b', o', s'⟩ → lo ≤ b'
theorem RSo.rsg {lo : Nat} {w : World} {A : Option Addr} {n : Nat} {xss : List (List Int)} (h : RSo lo w A n xss) : RSg w A n xss := ⟨h.1, fun j xs hx => by
  obtain ⟨b, o, A', m', c', e, _, h1, h2, _⟩ := h.2 j xs hx
  exact ⟨b, o, A', m', c', e, h1, h2⟩⟩
theorem RSo.ext {lo : Nat} {w w' : World} {A : Option Addr} {n : Nat} {xss : List (List Int)} (h : RSo lo w A n xss) (k : Ext w w') : RSo lo w' A n xss := ⟨h.1, fun j xs hx => by
  obtain ⟨b, o, A', m', c', e, h0, h1, h2, h3⟩ := h.2 j xs hx
  exact ⟨b, o, A', m', c', e, h0, Ext.keep k h1, h2.ext k, h3⟩⟩
theorem RI.setOff {w : World} {A : Option Addr} {n : Nat} {xs : List Int} (h : RI w A n xs) {p : Addr} (v : Value) (hp : ∀ b o s, A = some ⟨b, o, s⟩ → b ≠ p.block) : RI (w.setCell p v) A n xs :=
  ⟨h.1, fun h0 => by
    obtain ⟨b, o, e, hc⟩ := h.2 h0
    refine ⟨b, o, e, fun j x hx => ?_⟩
    rw [World.cell?_of_block (w := w) (w' := w.setCell p v) (a := ⟨b, o + j, none⟩) (Below.heap_setCell _ _ _ _ (hp b o none e))]
    exact hc j x hx⟩
theorem RSo.set {lo : Nat} {w : World} {A : Option Addr} {n : Nat} {xss : List (List Int)} (h : RSo lo w A n xss) {p : Addr} (hp : p.block < lo) (v : Value) : RSo lo (w.setCell p v) A n xss := ⟨h.1, fun j xs hx => by
  obtain ⟨b, o, A', m', c', e, h0, h1, h2, h3⟩ := h.2 j xs hx
  refine ⟨b, o, A', m', c', e, h0, ?_, h2.setOff v (fun b' o' s' e' => by have := h3 b' o' s' e'; omega), h3⟩
  rw [World.cell?_of_block (w := w) (w' := w.setCell p v) (a := ⟨b, o + j, none⟩) (Below.heap_setCell _ _ _ _ (show b ≠ p.block by omega))]
  exact h1⟩
/-- A box that holds a row of lists, each of the call's own. -/
structure RowQ (T TB : TypeId) (sz : Nat) (bcs : Value → Array Value) (w0 w : World) (p : Nat) (A : Option Addr) (n c : Nat) (xss : List (List Int)) : Prop where
  bx : w.heap[p]? = some (.cells (bcs (.slice A n c)) TB (0, 0))
  row : ∃ cs, w.ownsRow w0.heap.size T sz (.slice A n c) n cs ∧ cs.length = xss.length ∧ ∀ (j : Nat) (xs : List Int), xss[j]? = some xs → ∃ A' m' c', cs[j]? = some (.slice A' m' c') ∧ OwI w w0.heap.size A' m' c' xs
  on : Ext w0 w
  ge : w0.heap.size ≤ p
section
variable {T TB : TypeId} {sz : Nat} {bcs : Value → Array Value} {w0 w w' : World} {p : Nat} {A : Option Addr} {n c : Nat} {xss : List (List Int)}
theorem RowQ.ext (h : RowQ T TB sz bcs w0 w p A n c xss) (k : Ext w w') : RowQ T TB sz bcs w0 w' p A n c xss := by
  obtain ⟨cs, h1, h2, h3⟩ := h.row
  have hpl := (Array.getElem?_eq_some_iff.1 h.bx).1
  refine ⟨(k.block p hpl).trans h.bx, ⟨cs, ownsRow_heap h1 (fun b e => k.block b (ownsRow_at h1 e).2.1), h2, fun j xs hx => ?_⟩, h.on.trans k, h.ge⟩
  obtain ⟨A', m', c', e1, e2⟩ := h3 j xs hx
  exact ⟨A', m', c', e1, e2.ext k⟩
theorem RowQ.lt (h : RowQ T TB sz bcs w0 w p A n c xss) : p < w.heap.size := (Array.getElem?_eq_some_iff.1 h.bx).1
theorem RowQ.setLow (h : RowQ T TB sz bcs w0 w p A n c xss) {q i : Nat} (hq : q < w0.heap.size) (v : Value) : (w.setCell ⟨q, i, none⟩ v).heap[p]? = some (.cells (bcs (.slice A n c)) TB (0, 0)) ∧ ∃ cs, (w.setCell ⟨q, i, none⟩ v).ownsRow w0.heap.size T sz (.slice A n c) n cs ∧ cs.length = xss.length ∧ ∀ (j : Nat) (xs : List Int), xss[j]? = some xs → ∃ A' m' c', cs[j]? = some (.slice A' m' c') ∧ OwI (w.setCell ⟨q, i, none⟩ v) w0.heap.size A' m' c' xs := by
  obtain ⟨cs, h1, h2, h3⟩ := h.row
  have hge := h.ge
  refine ⟨(Below.heap_setCell _ _ _ _ (show p ≠ q by omega)).trans h.bx, cs, ownsRow_heap h1 (fun b e => Below.heap_setCell _ _ _ _ (show b ≠ q by have := (ownsRow_at h1 e).1; omega)), h2, fun j xs hx => ?_⟩
  obtain ⟨A', m', c', e1, e2⟩ := h3 j xs hx
  exact ⟨A', m', c', e1, e2.setFar _ fun b o s e => by have := (e2.bd b o s e).1; show b ≠ q; omega⟩
theorem RowQ.push {wx : World} {A2 : Option Addr} {c2 k q : Nat} {cs new : List Value} {yss : List (List Int)} {o : Obj} (h : RowQ T TB sz bcs w0 w p A n c xss)
    (hT1 : T ≠ 2) (hT2 : TB ≠ T) (hT3 : TB ≠ 2) (hset : ∀ v v', (bcs v).setIfInBounds q v' = bcs v')
    (hrow : w.ownsRow w0.heap.size T sz (.slice A n c) n cs) (hcl : cs.length = xss.length) (hel : ∀ (j : Nat) (xs : List Int), xss[j]? = some xs → ∃ A' m' c', cs[j]? = some (.slice A' m' c') ∧ OwI w w0.heap.size A' m' c' xs)
    (hnl : new.length = yss.length) (hnew : ∀ (j : Nat) (xs : List Int), yss[j]? = some xs → ∃ A' m' c', new[j]? = some (.slice A' m' c') ∧ OwI w w0.heap.size A' m' c' xs)
    (hown : wx.ownsRow w0.heap.size T sz (.slice A2 k c2) k (cs ++ new)) (hg : (w.alloc o).grownBy wx (Value.slice A n c).ownBlock) :
    RowQ T TB sz bcs w0 (wx.setCell ⟨p, q, none⟩ (.slice A2 k c2)) p A2 k c2 (xss ++ yss) := by
  have hpl := h.lt
  have hold : ∀ b, b < w.heap.size → (Value.slice A n c).ownBlock ≠ some b → wx.heap[b]? = w.heap[b]? := fun b h1 h2 =>
    (hg.block b (by simp; omega) (fun e => h2 e.symm)).trans (((Ext.refl w).alloc o).block b h1)
  have hrowt : ∀ b, (Value.slice A n c).ownBlock = some b → w0.heap.size ≤ b ∧ ∃ cur, w.heap[b]? = some (.cells cur T (0, 0)) := fun b e => by
    obtain ⟨k1, _, k2⟩ := ownsRow_at hrow e; exact ⟨k1, k2⟩
  have hpne : (Value.slice A n c).ownBlock ≠ some p := fun e => by
    obtain ⟨_, cur, k2⟩ := hrowt p e
    rw [h.bx] at k2; cases k2; exact hT2 rfl
  have hpx : wx.heap[p]? = some (.cells (bcs (.slice A n c)) TB (0, 0)) := (hold p hpl hpne).trans h.bx
  have hkeep : ∀ {A' : Option Addr} {m' c' : Nat} {xs : List Int}, OwI w w0.heap.size A' m' c' xs → OwI (wx.setCell ⟨p, q, none⟩ (.slice A2 k c2)) w0.heap.size A' m' c' xs := fun {A' m' c' xs} hO => by
    refine hO.heap fun b e => ?_
    rcases hO.blk with e0 | ⟨b', cur, e0, _, hb⟩
    · rw [e0] at e; cases e
    · rw [e0] at e; cases e
      have hne : (Value.slice A n c).ownBlock ≠ some b := fun e2 => by
        obtain ⟨_, cur2, k2⟩ := hrowt b e2
        rw [hb] at k2; cases k2; exact hT1 rfl
      have hbp : b ≠ p := fun e2 => by subst e2; rw [h.bx] at hb; cases hb; exact hT3 rfl
      rw [Below.heap_setCell _ _ _ _ hbp]
      exact hold b (Array.getElem?_eq_some_iff.1 hb).1 hne
  refine ⟨?_, ⟨cs ++ new, ownsRow_heap hown (fun b e => ?_), by simp [hcl, hnl], fun j xs hx => ?_⟩, ?_, h.ge⟩
  · simp [World.setCell, Array.getElem?_modify, hpx, hset]
  · obtain ⟨_, _, cur, k2⟩ := ownsRow_at hown e
    refine Below.heap_setCell _ _ _ _ (fun e2 => ?_)
    have e2' : b = p := e2
    subst e2'
    rw [hpx] at k2; cases k2; exact hT2 rfl
  · rcases Nat.lt_or_ge j xss.length with hj | hj
    · rw [List.getElem?_append_left hj] at hx
      obtain ⟨A', m', c', e1, e2⟩ := hel j xs hx
      exact ⟨A', m', c', by rw [List.getElem?_append_left (by omega)]; exact e1, hkeep e2⟩
    · rw [List.getElem?_append_right hj] at hx
      obtain ⟨A', m', c', e1, e2⟩ := hnew _ xs hx
      exact ⟨A', m', c', by rw [List.getElem?_append_right (by omega), hcl]; exact e1, hkeep e2⟩
  · exact Ext.set (Ext.grown (h.on.alloc o) hg fun b e => (hrowt b e).1) h.ge _
/-- The row without its last element. -/
theorem RowQ.cut {g k q : Nat} (h : RowQ T TB 1 bcs w0 w p (some ⟨g, 0, none⟩) (k + 1) c xss) (hT2 : TB ≠ T) (hT3 : TB ≠ 2) (hset : ∀ v v', (bcs v).setIfInBounds q v' = bcs v') (hl : xss.length = k + 1) :
    RowQ T TB 1 bcs w0 (w.setCell ⟨p, q, none⟩ (.slice (some ⟨g, 0, none⟩) k c)) p (some ⟨g, 0, none⟩) k c (xss.take k) := by
  obtain ⟨cs, h1, h2, h3⟩ := h.row
  have hgp : g ≠ p := fun e => by
    obtain ⟨_, _, cur, k2⟩ := ownsRow_at h1 (b := g) rfl
    subst e; rw [h.bx] at k2; cases k2; exact hT2 rfl
  have hcut : w.ownsRow w0.heap.size T 1 (.slice (some ⟨g, 0, none⟩) k c) k (cs.take k) := by
    refine ⟨by rw [List.length_take, h2, hl]; simp, ?_⟩
    rcases h1.2 with ⟨hv, _⟩ | ⟨g', cap, cur, hv, hg, hh, k1, k2, k3, k4⟩
    · cases hv
    · cases hv
      refine .inr ⟨g, c, cur, rfl, hg, hh, by omega, k2, k3, ?_⟩
      rw [← k4, List.take_take, Nat.mul_one, Nat.mul_one, Nat.min_eq_left (by omega)]
  refine ⟨by simp [World.setCell, Array.getElem?_modify, h.bx, hset], ⟨cs.take k, ownsRow_heap hcut (fun b e => by cases e; exact Below.heap_setCell _ _ _ _ hgp), by simp [h2], fun j xs hx => ?_⟩, Ext.set h.on h.ge _, h.ge⟩
  rw [List.getElem?_take] at hx
  split at hx
  · obtain ⟨A', m', c', e1, e2⟩ := h3 j xs hx
    refine ⟨A', m', c', by rw [List.getElem?_take, if_pos (by assumption)]; exact e1, e2.heap fun b e => ?_⟩
    rcases e2.blk with e0 | ⟨b', cur, e0, _, hb⟩
    · rw [e0] at e; cases e
    · rw [e0] at e; cases e
      refine Below.heap_setCell _ _ _ _ (fun e2 => ?_)
      have e3 : b = p := e2
      subst e3; rw [h.bx] at hb; cases hb; exact hT3 rfl
  · cases hx
theorem rso_of {lo : Nat} (hlo : lo ≤ w0.heap.size) (hn : xss.length = n) (hle : n ≤ 4194304) (h : ∃ cs, w.ownsRow w0.heap.size T 1 (.slice A n c) n cs ∧ cs.length = xss.length ∧ ∀ (j : Nat) (xs : List Int), xss[j]? = some xs → ∃ A' m' c', cs[j]? = some (.slice A' m' c') ∧ OwI w w0.heap.size A' m' c' xs) : RSo lo w A n xss := by
  obtain ⟨cs, h1, h2, h3⟩ := h
  refine ⟨⟨hn, hle⟩, fun j xs hx => ?_⟩
  have hj : j < n := by have := (List.getElem?_eq_some_iff.1 hx).1; omega
  obtain ⟨A', m', c', e1, e2⟩ := h3 j xs hx
  obtain ⟨b, cap, hv, hb, hbl⟩ := World.ownsRow.form h1 (by omega)
  cases hv
  exact ⟨b, 0, A', m', c', rfl, by omega, by rw [Nat.zero_add, World.ownsRow.cellAt h1 j (by omega)]; exact e1, e2.ri, fun b' o' s' e => by have := (e2.bd b' o' s' e).1; omega⟩
end
/-- The last element of a row. -/
theorem RowQ.last {T TB : TypeId} {bcs : Value → Array Value} {w0 w : World} {p : Nat} {A : Option Addr} {k c : Nat} {xss : List (List Int)} {xs : List Int} (h : RowQ T TB 1 bcs w0 w p A (k + 1) c xss) (hx : xss[k]? = some xs) :
    ∃ g A' m' c', A = some ⟨g, 0, none⟩ ∧ w.cell? ⟨g, k, none⟩ = some (.slice A' m' c') ∧ OwI w w0.heap.size A' m' c' xs := by
  obtain ⟨cs, h1, h2, h3⟩ := h.row
  obtain ⟨A', m', c', e1, e2⟩ := h3 k xs hx
  obtain ⟨b, cap, hv, _, hbl⟩ := World.ownsRow.form h1 (by omega)
  cases hv
  exact ⟨b, A', m', c', rfl, by rw [World.ownsRow.cellAt h1 k (by omega)]; exact e1, e2⟩
theorem gives_eq1 {τ : List (List Int)} {j : Nat} : plainAt τ j = [] ∨ plainAt τ j = gives τ (-1 - (j : Int)) := by unfold plainAt; split <;> simp
theorem plain_yes {τ : List (List Int)} {j : Nat} (h : gives τ (-1 - (j : Int)) = [-1 - (j : Int)]) : plainAt τ j = [] := if_pos h
theorem plain_no {τ : List (List Int)} {j : Nat} (h : ¬ gives τ (-1 - (j : Int)) = [-1 - (j : Int)]) : plainAt τ j = gives τ (-1 - (j : Int)) := if_neg h
/-- How long the row in the box is. -/
def boxLen (p : Nat) (w : World) : Nat := match w.cell? ⟨p, 0, none⟩ with
  | some (.slice _ n _) => n
  | _ => 0
theorem boxLen_at {p n c : Nat} {A : Option Addr} {w : World} (h : w.cell? ⟨p, 0, none⟩ = some (.slice A n c)) : boxLen p w = n := by unfold boxLen; rw [h]
theorem ints_infoQ : (Try.prog.info? 27).map (fun i => (i.zero, i.size, i.bytes)) = some (some (.slice none 0 0), 1, 24) := by kernel_rfl
abbrev RowS := RowQ 27 36 1 (fun v => #[v])
def NewPln (w : World) (τ : List (List Int)) (n0 : Nat) (e : Ending) (w' : World) : Prop := ∃ (A : Option Addr) (n c : Nat) (σ : List (List Int)), e = .returned (.agg #[.slice A n c]) ∧ RSo w.heap.size w' A n σ ∧ PlP τ σ n0 ∧ Ext w w'
set_option maxRecDepth 100000 in
set_option maxHeartbeats 8000000 in
theorem c_l2Plain {v : Value} {τ : List (List Int)} {n0 : Nat} {w : World} (h0 : RdSub w v τ) (hn : τ.length = n0) (hn24 : n0 ≤ 24) :
    Calls Try.prog 100 #[v] w (NewPln w τ n0) := by
  obtain ⟨B, m, d, rfl, hb⟩ := h0
  obtain rfl : m = n0 := by rw [← hn]; exact hb.1.1.symm
  have HB := Lib.hid hb
  have HN := Lib.hid hn
  obtain ⟨i0, hii, hiz, his, hib⟩ := info_parts ints_infoQ
  clear hb hn
  go_enter Try.func100, Try.ntmps100
  go_wp2_with fail
  obtain ⟨w1, hw1⟩ : ∃ w1, w1 = (w.alloc (.cells #[.slice B m d] 36)).alloc (.cells #[.slice none 0 0] 36) := ⟨_, rfl⟩
  have hb1 : w1.cell? ⟨w.heap.size, 0, none⟩ = some (.slice B m d) := by rw [hw1]; simp [go_sem]
  have hb2 : w1.cell? ⟨w.heap.size + 1, 0, none⟩ = some (.slice none 0 0) := by rw [hw1]; simp [go_sem]
  have hf2 : ∀ j, w1.frozen? ⟨w.heap.size + 1, j, none⟩ = false := by intro j; rw [hw1]; simp [go_sem]
  have hE1 : Ext w w1 := by rw [hw1]; exact extX
  have hz1 : w1.heap.size = w.heap.size + 1 + 1 := by rw [hw1]; simp [go_sem]
  have HR0 := Lib.hid (show RowS w1 (w1.alloc (.cells #[.slice none 0 0] 36)) w1.heap.size none 0 0 (plainL τ 0) from
    ⟨heap_alloc_new w1 _, ⟨[], World.ownsRow_nil _ _ _ _, rfl, fun j xs hx => by simp [plainL] at hx⟩, (Ext.refl _).alloc _, Nat.le_refl _⟩)
  rw [← hw1, ← hz1]
  have hz2 : w.heap.size + 1 < w1.heap.size := by omega
  clear hw1 hz1
  go_loopw [4] (fun kv wr => ∃ k : Nat, kv = .int .i64 k ∧ k ≤ m ∧ Hid (∃ A c, RowS w1 wr w1.heap.size A k c (plainL τ k))) (fun kv _ => m - (intOf kv).toNat)
  case atStart => exact ⟨0, rfl, Nat.zero_le _, Lib.hid ⟨none, 0, HR0.out⟩⟩
  case round =>
    obtain ⟨k, rfl, hk, hI⟩ := hrel
    obtain ⟨A, c, hR⟩ := hI.out
    have HR := Lib.hid hR
    have hE := hR.on
    have hEw := Ext.trans hE1 hE
    have hc1 := Ext.keep hE hb1
    have hsz := hE.size
    clear hI hR
    by_cases hlt : k < m
    · have hki : (k : Int) < (m : Int) := by omega
      have hw1' : IntKind.i64.wrap (-1 - (k : Int)) = -1 - (k : Int) := IntWalk.i64_in _ (by omega)
      have hPS := plainL_succ τ k
      have HPS := Lib.hid hPS
      clear hPS
      go_wp2_with fail
      (with_reducible refine (c_l2Gives (RdSub.mk (RSg.ext HB.out hEw)) (by omega)).mono ?_)
      rintro e w5 ⟨A5, n5, c5, rfl, hO5, hE5⟩
      have HR5 := Lib.hid (HR.out.ext hE5)
      have hl5 := hO5.len
      have HO5 := Lib.hid (hO5.lower (B' := w1.heap.size) hsz)
      have hsz5 := hE5.size
      have hlt5 := HR5.out.lt
      have hp5 : w5.cell? ⟨w1.heap.size, 0, none⟩ = some (.slice A k c) := cell_of_row _ _ _ _ _ (0, 0) HR5.out.bx
      clear hO5
      by_cases hn1 : n5 = 1
      · obtain ⟨b, o, y, rfl, hy, hcy⟩ := RI.at_ HO5.out.ri (show 0 < n5 by omega)
        rw [Nat.add_zero] at hcy
        subst hn1
        by_cases hyk : y = -1 - (k : Int)
        · have HPL := Lib.hid (show plainAt τ k = [] from plain_yes (by
            cases hg : gives τ (-1 - (k : Int)) with
            | nil => rw [hg] at hl5; simp at hl5
            | cons z zs =>
              rw [hg] at hl5 hy
              have : zs = [] := List.length_eq_zero_iff.1 (by simpa using hl5)
              subst this
              simp at hy
              rw [hy, hyk]))
          have hye : (y == -1 - (k : Int)) = true := by simpa using hyk
          subst hyk
          clear hy hl5
          have HO6 := Lib.hid (show OwI (w5.alloc (.cells #[] 2)) w1.heap.size (some ⟨w5.heap.size, 0, none⟩) 0 0 (plainAt τ k) by rw [HPL.out]; exact OwI.none0 (by omega))
          have HR6 := Lib.hid (HR5.out.ext ((Ext.refl w5).alloc (.cells #[] 2)))
          have hbx6 : (w5.alloc (.cells #[] 2)).cell? ⟨w1.heap.size, 0, none⟩ = some (.slice A k c) := cell_of_row _ _ _ _ _ (0, 0) HR6.out.bx
          obtain ⟨cs, hrow, hcl, hel⟩ := HR6.out.row
          have HROW := Lib.hid hrow
          have HCL := Lib.hid hcl
          have HEL := Lib.hid hel
          have hrow2 := Lib.hid (ownsRow_heap (w' := (w5.alloc (.cells #[] 2)).alloc (.cells #[.slice (some ⟨w5.heap.size, 0, none⟩) 0 0] 27)) hrow (fun b e => ((Ext.refl _).alloc _).block b (ownsRow_at hrow e).2.1))
          clear hrow hcl hel
          go_wp2_with (at_builtin; go_loud (refine wpList_append_lies _ rfl (.tmp 30) (.tmp 32) 34 rfl w1.heap.size 27 i0 (.slice none 0 0) 1 24 Try.underlying34 hii hiz his hib rfl (by decide) _ k _ rfl hrow2.out ⟨w5.heap.size + 1, 0, none⟩ 1 1 [.slice (some ⟨w5.heap.size, 0, none⟩) 0 0] rfl rfl (one_cells' (w := w5.alloc (.cells #[] 2)) (by simp) _ _) (by intro u hu; simp at hu; subst hu; rfl) (by decide) (by unfold maxLen; omega) (by omega) (by simp; omega) _ rfl ?_))
          intro g4 cap wx hown hg hat hltg
          have HP := Lib.hid (RowQ.push (q := 0) HR6.out (by decide) (by decide) (by decide) (fun v v' => rfl) HROW.out HCL.out HEL.out (new := [.slice (some ⟨w5.heap.size, 0, none⟩) 0 0]) (yss := [plainAt τ k]) rfl (fun j xs hx => by
            cases j with
            | zero => cases hx; exact ⟨_, _, _, rfl, HO6.out⟩
            | succ j => simp at hx) hown hg)
          have hbxx : wx.heap[w1.heap.size]? = some (.cells #[.slice A k c] 36 (0, 0)) := (hg.block w1.heap.size (by have := HR6.out.lt; simp at this ⊢; omega) (fun e => by
            obtain ⟨_, _, cur, h2⟩ := ownsRow_at HROW.out e.symm
            rw [HR6.out.bx] at h2; cases h2)).trans ((((Ext.refl (w5.alloc (.cells #[] 2))).alloc _).block w1.heap.size HR6.out.lt).trans HR6.out.bx)
          have hcx : wx.cell? ⟨w1.heap.size, 0, none⟩ = some (.slice A k c) := cell_of_row _ _ _ _ _ (0, 0) hbxx
          have hfx : ∀ j, wx.frozen? ⟨w1.heap.size, j, none⟩ = false := fun j => frozen_of_row _ _ _ _ _ hbxx
          clear hown hg hat hbxx
          go_wp2_with fail
          go_roundw
          case rel => exact ⟨k + 1, by go_num, by omega, Lib.hid ⟨_, _, by rw [HPS.out]; exact HP.out⟩⟩
          case measure => simp only [intOf]; omega
        · have HPL := Lib.hid (show plainAt τ k = gives τ (-1 - (k : Int)) from plain_no (fun e => by rw [e] at hy; simp at hy; exact hyk hy.symm))
          have hye : (y == -1 - (k : Int)) = false := by simpa using hyk
          clear hy hl5
          have HO6 := Lib.hid (show OwI w5 w1.heap.size (some ⟨b, o, none⟩) 1 c5 (plainAt τ k) by rw [HPL.out]; exact HO5.out)
          have HR6 := HR5
          have hbx6 : (w5).cell? ⟨w1.heap.size, 0, none⟩ = some (.slice A k c) := cell_of_row _ _ _ _ _ (0, 0) HR6.out.bx
          obtain ⟨cs, hrow, hcl, hel⟩ := HR6.out.row
          have HROW := Lib.hid hrow
          have HCL := Lib.hid hcl
          have HEL := Lib.hid hel
          have hrow2 := Lib.hid (ownsRow_heap (w' := (w5).alloc (.cells #[.slice (some ⟨b, o, none⟩) 1 c5] 27)) hrow (fun b e => ((Ext.refl _).alloc _).block b (ownsRow_at hrow e).2.1))
          clear hrow hcl hel
          go_wp2_with (at_builtin; go_loud (refine wpList_append_lies _ rfl (.tmp 30) (.tmp 32) 34 rfl w1.heap.size 27 i0 (.slice none 0 0) 1 24 Try.underlying34 hii hiz his hib rfl (by decide) _ k _ rfl hrow2.out ⟨w5.heap.size, 0, none⟩ 1 1 [.slice (some ⟨b, o, none⟩) 1 c5] rfl rfl (one_cells' (w := w5) (by simp) _ _) (by intro u hu; simp at hu; subst hu; rfl) (by decide) (by unfold maxLen; omega) (by omega) (by simp; omega) _ rfl ?_))
          intro g4 cap wx hown hg hat hltg
          have HP := Lib.hid (RowQ.push (q := 0) HR6.out (by decide) (by decide) (by decide) (fun v v' => rfl) HROW.out HCL.out HEL.out (new := [.slice (some ⟨b, o, none⟩) 1 c5]) (yss := [plainAt τ k]) rfl (fun j xs hx => by
            cases j with
            | zero => cases hx; exact ⟨_, _, _, rfl, HO6.out⟩
            | succ j => simp at hx) hown hg)
          have hbxx : wx.heap[w1.heap.size]? = some (.cells #[.slice A k c] 36 (0, 0)) := (hg.block w1.heap.size (by have := HR6.out.lt; simp at this ⊢; omega) (fun e => by
            obtain ⟨_, _, cur, h2⟩ := ownsRow_at HROW.out e.symm
            rw [HR6.out.bx] at h2; cases h2)).trans ((((Ext.refl (w5)).alloc _).block w1.heap.size HR6.out.lt).trans HR6.out.bx)
          have hcx : wx.cell? ⟨w1.heap.size, 0, none⟩ = some (.slice A k c) := cell_of_row _ _ _ _ _ (0, 0) hbxx
          have hfx : ∀ j, wx.frozen? ⟨w1.heap.size, j, none⟩ = false := fun j => frozen_of_row _ _ _ _ _ hbxx
          clear hown hg hat hbxx
          go_wp2_with fail
          go_roundw
          case rel => exact ⟨k + 1, by go_num, by omega, Lib.hid ⟨_, _, by rw [HPS.out]; exact HP.out⟩⟩
          case measure => simp only [intOf]; omega
      · have HPL := Lib.hid (show plainAt τ k = gives τ (-1 - (k : Int)) from plain_no (fun e => by rw [e] at hl5; simp at hl5; omega))
        have hne1 : ((n5 : Int) == 1) = false := by simp; omega
        clear hl5
        have HO6 := Lib.hid (show OwI w5 w1.heap.size A5 n5 c5 (plainAt τ k) by rw [HPL.out]; exact HO5.out)
        have HR6 := HR5
        have hbx6 : (w5).cell? ⟨w1.heap.size, 0, none⟩ = some (.slice A k c) := cell_of_row _ _ _ _ _ (0, 0) HR6.out.bx
        obtain ⟨cs, hrow, hcl, hel⟩ := HR6.out.row
        have HROW := Lib.hid hrow
        have HCL := Lib.hid hcl
        have HEL := Lib.hid hel
        have hrow2 := Lib.hid (ownsRow_heap (w' := (w5).alloc (.cells #[.slice (A5) n5 c5] 27)) hrow (fun b e => ((Ext.refl _).alloc _).block b (ownsRow_at hrow e).2.1))
        clear hrow hcl hel
        go_wp2_with (at_builtin; go_loud (refine wpList_append_lies _ rfl (.tmp 30) (.tmp 32) 34 rfl w1.heap.size 27 i0 (.slice none 0 0) 1 24 Try.underlying34 hii hiz his hib rfl (by decide) _ k _ rfl hrow2.out ⟨w5.heap.size, 0, none⟩ 1 1 [.slice (A5) n5 c5] rfl rfl (one_cells' (w := w5) (by simp) _ _) (by intro u hu; simp at hu; subst hu; rfl) (by decide) (by unfold maxLen; omega) (by omega) (by simp; omega) _ rfl ?_))
        intro g4 cap wx hown hg hat hltg
        have HP := Lib.hid (RowQ.push (q := 0) HR6.out (by decide) (by decide) (by decide) (fun v v' => rfl) HROW.out HCL.out HEL.out (new := [.slice (A5) n5 c5]) (yss := [plainAt τ k]) rfl (fun j xs hx => by
          cases j with
          | zero => cases hx; exact ⟨_, _, _, rfl, HO6.out⟩
          | succ j => simp at hx) hown hg)
        have hbxx : wx.heap[w1.heap.size]? = some (.cells #[.slice A k c] 36 (0, 0)) := (hg.block w1.heap.size (by have := HR6.out.lt; simp at this ⊢; omega) (fun e => by
          obtain ⟨_, _, cur, h2⟩ := ownsRow_at HROW.out e.symm
          rw [HR6.out.bx] at h2; cases h2)).trans ((((Ext.refl (w5)).alloc _).block w1.heap.size HR6.out.lt).trans HR6.out.bx)
        have hcx : wx.cell? ⟨w1.heap.size, 0, none⟩ = some (.slice A k c) := cell_of_row _ _ _ _ _ (0, 0) hbxx
        have hfx : ∀ j, wx.frozen? ⟨w1.heap.size, j, none⟩ = false := fun j => frozen_of_row _ _ _ _ _ hbxx
        clear hown hg hat hbxx
        go_wp2_with fail
        go_roundw
        case rel => exact ⟨k + 1, by go_num, by omega, Lib.hid ⟨_, _, by rw [HPS.out]; exact HP.out⟩⟩
        case measure => simp only [intOf]; omega
    · obtain rfl : k = m := by omega
      obtain ⟨wq, rfl⟩ : ∃ wq : World, wq = wr := ⟨_, rfl⟩
      have HP0 := Lib.hid (PlP.start τ k)
      have HL0 := Lib.hid (plainL_len τ k)
      go_wp2_with fail
      go_loopw [] (fun wr => Hid (∃ A n c σ, RowS w1 wr w1.heap.size A n c σ ∧ PlP τ σ k ∧ σ.length = n)) (fun wr => boxLen w1.heap.size wr)
      case atStart => exact Lib.hid ⟨_, _, _, _, HR.out, HP0.out, HL0.out⟩
      case round =>
        obtain ⟨A9, n9, c9, σ, hR9, hP9, hl9⟩ := hrel.out
        have HR9 := Lib.hid hR9
        have HP9 := Lib.hid hP9
        have HL9 := Lib.hid hl9
        have hc9 : wr.cell? ⟨w1.heap.size, 0, none⟩ = some (.slice A9 n9 c9) := cell_of_row _ _ _ _ _ (0, 0) hR9.bx
        have hf9 : ∀ j, wr.frozen? ⟨w1.heap.size, j, none⟩ = false := fun j => frozen_of_row _ _ _ _ _ hR9.bx
        have hE9 := hR9.on
        have hd2 := Ext.keep hE9 hb2
        have hdf : ∀ j, wr.frozen? ⟨w.heap.size + 1, j, none⟩ = false := fun j => (Below.frozen (p := ⟨w.heap.size + 1, j, none⟩) hE9 hz2).trans (hf2 j)
        have hn9 : n9 ≤ 24 := by have := hP9.le; omega
        have HBL := Lib.hid (boxLen_at hc9)
        clear hrel hR9 hP9 hl9
        have hend : ∀ (v : Value), NewPln w τ k (.returned (.agg #[.slice A9 n9 c9])) (wr.setCell ⟨w.heap.size + 1, 0, none⟩ v) := fun v =>
          ⟨A9, n9, c9, σ, rfl, rso_of hE1.size HL9.out (by omega) (HR9.out.setLow hz2 v).2, HP9.out, Ext.set (Ext.trans hE1 hE9) (by show w.heap.size ≤ w.heap.size + 1; omega) _⟩
        have HEND := Lib.hid hend
        clear hend
        rcases Nat.eq_zero_or_pos n9 with hz | hz
        · subst hz
          go_wp2_with fail
          refine bodyPost_ret (v := .agg #[.slice A9 0 c9]) (by simp [results, Try.results100, go_sem, hc9, hd2, hdf]) rfl ?_
          exact HEND.out _
        · obtain ⟨q, rfl⟩ : ∃ q, n9 = q + 1 := ⟨n9 - 1, by omega⟩
          have hq : q < σ.length := by have := HL9.out; omega
          have HLS := Lib.hid (HP9.out.last hq)
          obtain ⟨g9, A8, m8, c8, rfl, hcl, hO8⟩ := HR9.out.last HLS.out
          have hl8 := hO8.len
          have hq1 : ((q + 1 : Nat) : Int) - 1 = (q : Int) := by omega
          have hqp : ((q + 1 : Nat) : Int) > 0 := by omega
          have hq0 : (0 : Int) ≤ (q : Int) := by omega
          have hq2 : (q : Int) < ((q + 1 : Nat) : Int) := by omega
          have hcap := ownsRow_cap HR9.out.row.choose_spec.1
          have hgl := World.block_lt_of_cell? wr _ hcl
          clear hO8
          by_cases hm8 : m8 = 0
          · have HE0 := Lib.hid (show plainAt τ q = [] from List.length_eq_zero_iff.1 (by omega))
            subst hm8
            clear hl8
            have HC := Lib.hid (RowQ.cut (q := 0) HR9.out (by decide) (by decide) (fun v v' => rfl) HL9.out)
            have HPC := Lib.hid (HP9.out.cut HL9.out HE0.out)
            have HLC := Lib.hid (show (σ.take q).length = q by rw [List.length_take]; have := HL9.out; omega)
            go_wp2_with fail
            go_roundw
            case rel => exact Lib.hid ⟨_, _, _, _, HC.out, HPC.out, HLC.out⟩
            case measure =>
              have h1 : boxLen w1.heap.size (wr.setCell ⟨w1.heap.size, 0, none⟩ (.slice (some ⟨g9, 0, none⟩) q c9)) = q := boxLen_at (cell_of_row _ _ _ _ _ (0, 0) HC.out.bx)
              rw [h1, HBL.out]; omega
          · have hm8i : ((m8 : Int) == 0) = false := by simp; omega
            clear hl8
            go_wp2_with fail
            refine bodyPost_ret (v := .agg #[.slice (some ⟨g9, 0, none⟩) (q + 1) c9]) (by simp [results, Try.results100, go_sem, hc9, hd2, hdf]) rfl ?_
            exact HEND.out _

/-! Steps by the reference: matching. -/
theorem RSo.lower {lo lo' : Nat} {w : World} {A : Option Addr} {n : Nat} {xss : List (List Int)} (h : RSo lo w A n xss) (hl : lo' ≤ lo) : RSo lo' w A n xss := ⟨h.1, fun j xs hx => by
  obtain ⟨b, o, A', m', c', e, h0, h1, h2, h3⟩ := h.2 j xs hx
  exact ⟨b, o, A', m', c', e, by omega, h1, h2, fun b' o' s' e' => by have := h3 b' o' s' e'; omega⟩⟩
/-- The row of what is matched. -/
def MtR (w0 w : World) (M : Nat) (τ : List (List Int)) : Prop := ∃ cs, w.ownsRow w0.heap.size 27 1 (.slice (some ⟨M, 0, none⟩) 24 24) 24 cs ∧ ∀ (j : Nat), j < 24 → ∃ A' m' c', cs[j]? = some (.slice A' m' c') ∧ OwI w w0.heap.size A' m' c' (τ.getD j [])
theorem MtR.ext {w0 w w' : World} {M : Nat} {τ : List (List Int)} (h : MtR w0 w M τ) (k : Ext w w') : MtR w0 w' M τ := by
  obtain ⟨cs, h1, h2⟩ := h
  refine ⟨cs, ownsRow_heap h1 (fun b e => k.block b (ownsRow_at h1 e).2.1), fun j hj => ?_⟩
  obtain ⟨A', m', c', e1, e2⟩ := h2 j hj
  exact ⟨A', m', c', e1, e2.ext k⟩
theorem MtR.at_ {w0 w : World} {M j : Nat} {τ : List (List Int)} (h : MtR w0 w M τ) (hj : j < 24) : ∃ A' m' c', w.cell? ⟨M, j, none⟩ = some (.slice A' m' c') ∧ w.frozen? ⟨M, j, none⟩ = false ∧ OwI w w0.heap.size A' m' c' (τ.getD j []) := by
  obtain ⟨cs, h1, h2⟩ := h
  obtain ⟨A', m', c', e1, e2⟩ := h2 j hj
  exact ⟨A', m', c', by rw [World.ownsRow.cellAt h1 j (by omega)]; exact e1, World.ownsRow.frozenAt h1 j, e2⟩
theorem MtR.set {w0 w : World} {M k n c : Nat} {A : Option Addr} {τ : List (List Int)} {u : List Int} (h : MtR w0 w M τ) (hk : k < 24) (hl : τ.length = 24) (hT : 27 ≠ 2) (hO : OwI w w0.heap.size A n c u) :
    MtR w0 (w.setCell ⟨M, k, none⟩ (.slice A n c)) M (τ.set k u) := by
  obtain ⟨cs, h1, h2⟩ := h
  have hcl : cs.length = 24 := by have := h1.1; omega
  have hkeep : ∀ {A' : Option Addr} {m' c' : Nat} {xs : List Int}, OwI w w0.heap.size A' m' c' xs → OwI (w.setCell ⟨M, k, none⟩ (.slice A n c)) w0.heap.size A' m' c' xs := fun {A' m' c' xs} hO => by
    refine hO.heap fun b e => ?_
    rcases hO.blk with e0 | ⟨b', cur, e0, _, hb⟩
    · rw [e0] at e; cases e
    · rw [e0] at e; cases e
      refine Below.heap_setCell _ _ _ _ (fun e2 => ?_)
      have e3 : b = M := e2
      obtain ⟨_, _, cur2, k2⟩ := ownsRow_at h1 (b := M) rfl
      subst e3; rw [hb] at k2; cases k2
  refine ⟨cs.set k (.slice A n c), (World.ownsRow.stored h1 k _).1, fun j hj => ?_⟩
  rw [List.getElem?_set, getD_set (by omega)]
  by_cases e : k = j
  · subst e
    rw [if_pos rfl, if_pos (by omega), if_pos rfl]
    exact ⟨A, n, c, rfl, hkeep hO⟩
  · rw [if_neg e, if_neg e]
    obtain ⟨A', m', c', e1, e2⟩ := h2 j hj
    exact ⟨A', m', c', e1, hkeep e2⟩
theorem MtR.rsg {w0 w : World} {M : Nat} {τ : List (List Int)} (h : MtR w0 w M τ) (hl : τ.length = 24) : RSg w (some ⟨M, 0, none⟩) 24 τ := by
  refine ⟨⟨hl, by omega⟩, fun j xs hx => ?_⟩
  have hj : j < 24 := by have := (List.getElem?_eq_some_iff.1 hx).1; omega
  obtain ⟨A', m', c', e1, _, e2⟩ := h.at_ hj
  rw [List.getD_eq_getElem?_getD, hx] at e2
  exact ⟨M, 0, A', m', c', rfl, by rw [Nat.zero_add]; exact e1, e2.ri⟩
theorem MtR.lt {w0 w : World} {M : Nat} {τ : List (List Int)} (h : MtR w0 w M τ) : w0.heap.size ≤ M ∧ M < w.heap.size := by
  obtain ⟨cs, h1, _⟩ := h
  obtain ⟨k1, k2, _⟩ := ownsRow_at h1 (b := M) rfl
  exact ⟨k1, k2⟩
theorem madeNils (n : Nat) : (madeCells #[Value.slice none 0 0] n).toList = List.replicate n (Value.slice none 0 0) := by
  apply List.ext_getElem?
  intro j
  simp only [madeCells, Array.toList_map, Array.toList_range, List.getElem?_map, List.getElem?_replicate]
  rcases Nat.lt_or_ge j n with h | h
  · simp [h, Nat.mod_one]
  · simp [Nat.not_lt.2 h]
/-- What matching gives. -/
def NewMt (w : World) (ar p t : List Int) (e : Ending) (w' : World) : Prop := ∃ (A : Option Addr) (n c : Nat) (σ : List (List Int)) (b : Bool), e = .returned (.tuple #[.agg #[.slice A n c], .bool b]) ∧ RSo w.heap.size w' A n σ ∧ ((b = true → SubP ar σ ∧ fill (gives σ) p = t) ∧ (b = false → ¬ InstP ar p t)) ∧ Ext w w'
theorem NewMt.no {w w' : World} {ar p t : List Int} (hn : ¬ InstP ar p t) (k : Ext w w') : NewMt w ar p t (.returned (.tuple #[.agg #[.slice none 0 0], .bool false])) w' :=
  ⟨none, 0, 0, [], false, rfl, ⟨⟨rfl, by omega⟩, fun j xs hx => by simp at hx⟩, ⟨(fun h => by cases h), fun _ => hn⟩, k⟩
theorem c_SameTermM {v0 v1 : Value} {xs ys : List Int} {b : Bool} {w : World} (hb : (xs == ys) = b) (h0 : RdI w v0 xs) (h1 : RdI w v1 ys) :
    Calls Try.prog 93 #[v0, v1] w fun e w' => e = .returned (.bool b) ∧ Ext w w' := by subst hb; exact c_SameTerm h0 h1
set_option maxRecDepth 100000 in
set_option maxHeartbeats 8000000 in
theorem c_l4Match {v0 v1 : Value} {ar p t : List Int} {A : Option Addr} {n c : Nat} {w : World} (h0 : RdSig w v0 ar) (h1 : RdI w v1 p) (h2 : RI w A n t) (hc : n ≤ c ∧ c ≤ 9223372036854775807) (hp : TermP ar p) (ht : TermP ar t) :
    Calls Try.prog 94 #[v0, v1, .slice A n c] w (NewMt w ar p t) := by
  obtain ⟨D, q, l, rfl, hd⟩ := h0
  obtain ⟨B, m, d, rfl, hb⟩ := h1
  have HD := Lib.hid hd
  have HB := Lib.hid hb
  have HA := Lib.hid h2
  have HP := Lib.hid hp
  have HT := Lib.hid ht
  have hm60 : m ≤ 60 := by rw [← hb.len]; exact hp.2.1.2
  have hn60 : n ≤ 60 := by rw [← h2.len]; exact ht.2.1.2
  have HLB := Lib.hid hb.len
  have HLA := Lib.hid h2.len
  obtain ⟨i0, hii, hiz, his, hib⟩ := info_parts ints_infoQ
  clear hd hb h2 hp ht
  go_enter Try.func94, Try.ntmps94
  go_wp2_with (at_make; refine wpList_make_full _ rfl _ _ 34 rfl (w.heap.size + 1 + 1) 27 i0 _ 1 Try.underlying34 hii hiz his _ _ _ _ 24 rfl rfl rfl rfl (by rw [hib]; omega) (by simp only [maxLen]; omega) (by go_size) ?_)
  intro w2 hown0 hg2
  obtain ⟨w1, hw1⟩ : ∃ w1, w1 = (w.alloc (.cells #[.slice D q l] 29)).alloc (.cells #[.slice none 0 0] 36) := ⟨_, rfl⟩
  have hz1 : w1.heap.size = w.heap.size + 1 + 1 := by rw [hw1]; simp [go_sem]
  have hb1 : w1.cell? ⟨w.heap.size, 0, none⟩ = some (.slice D q l) := by rw [hw1]; simp [go_sem]
  have hb2 : w1.cell? ⟨w.heap.size + 1, 0, none⟩ = some (.slice none 0 0) := by rw [hw1]; simp [go_sem]
  have hf2 : ∀ j, w1.frozen? ⟨w.heap.size + 1, j, none⟩ = false := by intro j; rw [hw1]; simp [go_sem]
  have hE1 : Ext w w1 := by rw [hw1]; exact extX
  have hE2 : Ext w1 w2 := Ext.grown (Ext.refl _) (by rw [hw1]; exact hg2) (fun k hk => by cases hk)
  rw [madeNils] at hown0
  try simp only [World.size_alloc] at hown0
  rw [← hz1] at hown0
  have HM2 := Lib.hid (show MtR w1 w2 w1.heap.size (List.replicate 24 []) from ⟨_, hown0, fun j hj => ⟨none, 0, 0, by rw [List.getElem?_replicate, if_pos hj], by
    rw [List.getD_eq_getElem?_getD, List.getElem?_replicate, if_pos hj]; exact ⟨by omega, World.ownsRow_nil _ _ _ _⟩⟩⟩)
  have hml := HM2.out.lt.2
  have hz2 : w.heap.size + 1 < w1.heap.size := by omega
  have HZ1 := Lib.hid hz1
  clear hown0 hg2 hw1
  go_wp2_with fail
  try simp only [World.size_alloc]
  rw [← hz1]
  clear hz1
  obtain ⟨w3, hw3⟩ : ∃ w3, w3 = w2.alloc (.cells #[.slice (some ⟨w1.heap.size, 0, none⟩) 24 24] 36) := ⟨_, rfl⟩
  have hb3 : w3.cell? ⟨w2.heap.size, 0, none⟩ = some (.slice (some ⟨w1.heap.size, 0, none⟩) 24 24) := by rw [hw3]; simp [go_sem]
  have hE23 : Ext w2 w3 := by rw [hw3]; exact extX
  have HM3 := Lib.hid (HM2.out.ext hE23)
  have hE3 := Ext.trans hE2 hE23
  have hbM : w1.heap.size ≠ w2.heap.size := by omega
  rw [← hw3]
  clear hw3
  go_loopw [9, 10] (fun kv iv wr => ∃ (k i : Nat), kv = .int .i64 k ∧ iv = .int .i64 i ∧ i ≤ m ∧ k ≤ n ∧ Hid (∃ τ, MtR w1 wr w1.heap.size τ ∧ MtP ar p t τ i k) ∧ Ext w1 wr ∧ wr.cell? ⟨w2.heap.size, 0, none⟩ = some (.slice (some ⟨w1.heap.size, 0, none⟩) 24 24)) (fun _ iv _ => m - (intOf iv).toNat)
  case atStart => exact ⟨0, 0, rfl, rfl, Nat.zero_le _, Nat.zero_le _, Lib.hid ⟨_, HM3.out, MtP.start ar p t⟩, hE3, hb3⟩
  case round =>
    obtain ⟨k, i, rfl, rfl, hi, hk, hI, hE, hb8⟩ := hrel
    obtain ⟨τ, hR, hMP⟩ := hI.out
    have HR := Lib.hid hR
    have HMP := Lib.hid hMP
    have htl := hMP.tl
    have HTL := Lib.hid htl
    have hEw := Ext.trans hE1 hE
    have hr1 := Ext.keep hE hb1
    have hr2 := Ext.keep hE hb2
    have hrf2 : ∀ j, wr.frozen? ⟨w.heap.size + 1, j, none⟩ = false := fun j => (Below.frozen (p := ⟨w.heap.size + 1, j, none⟩) hE hz2).trans (hf2 j)
    have hml := hR.lt.2
    have hsz := hE.size
    clear hI hR hMP htl
    by_cases hlt : i < m
    · obtain ⟨b, o, x, rfl, hx, hcx1⟩ := RI.at_ (RI.ext HB.out hE1) hlt
      have hcx := Ext.keep hE hcx1
      have hx24 := HP.out.2.2.1 x (List.mem_of_getElem? hx)
      have hii' : (i : Int) < (m : Int) := by omega
      have hi0 : (0 : Int) ≤ (i : Int) := by omega
      have HX := Lib.hid hx
      clear hx
      by_cases hkn : k < n
      · have hkni : ¬ ((k : Int) ≥ (n : Int)) := by omega
        have hkn2 : (k : Int) < (n : Int) := by omega
        have hk0 : (0 : Int) ≤ (k : Int) := by omega
        obtain ⟨b2, o2, y, rfl, hy, hcy⟩ := RI.at_ (RI.ext HA.out hEw) hkn
        have HY := Lib.hid hy
        clear hy
        by_cases hx0 : x < 0
        · have hx0i : ¬ (x ≥ 0) := by omega
          obtain ⟨v, hv⟩ := Int.eq_ofNat_of_zero_le (show 0 ≤ -1 - x by omega)
          have hv24 : v < 24 := by omega
          have hvx : (-1 - x).toNat = v := by omega
          have hwv : IntKind.i64.wrap (-1 - x) = (v : Int) := by rw [hv]; exact IntWalk.i64_in _ (by omega)
          have hv0 : (0 : Int) ≤ (v : Int) := by omega
          have hv24i : (v : Int) < 24 := by omega
          have HVX := Lib.hid hvx
          have HVV := Lib.hid hv
          clear hv hvx
          go_wp2_with fail
          (with_reducible refine (c_l1SubT (RdSig.mk (RI.ext HD.out hEw)) (RI.ext HA.out hEw) hc HT.out (by have := HLA.out; omega)).mono ?_)
          rintro e w5 ⟨A5, n5, c5, rfl, hO5, hE5⟩
          have hl5 := hO5.len
          have HTS := Lib.hid (sub_term HT.out (show k < t.length by have := HLA.out; omega))
          have h5p : 1 ≤ n5 := by rw [← hl5]; exact flat_pos _
          have h560 : n5 ≤ 60 := by rw [← hl5]; exact HTS.out.1.2.1.2
          have HO5 := Lib.hid (hO5.lower (B' := w1.heap.size) hsz)
          have HR5 := Lib.hid (HR.out.ext hE5)
          have hE15 := Ext.trans hE hE5
          have hs1 := Ext.keep hE5 hr1
          have hs2 := Ext.keep hE5 hr2
          have hs8 := Ext.keep hE5 hb8
          have hsx := Ext.keep hE5 hcx
          have hsf2 : ∀ j, w5.frozen? ⟨w.heap.size + 1, j, none⟩ = false := fun j => (Below.frozen (p := ⟨w.heap.size + 1, j, none⟩) hE15 hz2).trans (hf2 j)
          obtain ⟨A6, n6, c6, hc6, hf6, hO6⟩ := HR5.out.at_ hv24
          have hl6 := hO6.len
          have HL6 := Lib.hid hl6
          have HO6 := Lib.hid hO6.ri
          have hsz5 := hE15.size
          have HL5 := Lib.hid hl5
          have hml5 := HR5.out.lt.2
          have hbl := World.block_lt_of_cell? w5 _ hsx
          have hbl8 := World.block_lt_of_cell? w5 _ hs8
          have hbM' : b ≠ w1.heap.size := by have h9 : b < w1.heap.size := World.block_lt_of_cell? w1 _ hcx1; omega
          clear hO5 hO6 hl5
          by_cases hn6 : n6 = 0
          · have HOLD := Lib.hid (show τ.getD v [] = [] from List.length_eq_zero_iff.1 (by omega))
            subst hn6
            clear hl6
            have hd6 : decide ((0 : Int) < 0) = false := by decide
            go_wp2_with fail
            go_quiet (fail)
            go_wp2_with fail
            obtain ⟨w7, hw7⟩ : ∃ w7, w7 = w5.drewN nq := ⟨_, rfl⟩
            have hE57 : Ext w5 w7 := by rw [hw7]; exact (Ext.refl w5).drewN nq
            rw [← hw7]
            clear hw7
            have hs8' := Ext.keep hE57 hs8
            have HR7 := Lib.hid (HR5.out.ext hE57)
            have hE17 := Ext.trans hE15 hE57
            have HNX := Lib.hid (HMP.out.var HX.out hx0 hx24 HTS.out.1 HTS.out.2.2 (.inl (by rw [HVX.out]; exact HOLD.out)))
            rw [HVX.out, HL5.out] at HNX
            have hkb := HTS.out.2.1
            rw [HL5.out, HLA.out] at hkb
            refine wp_only (R := fun (a0 : Act) (a8 : Act) (w9 : World) => a8 = (((((((((a0.put (some 66) (.pointer (some ⟨w2.heap.size, 0, none⟩))).put (some 67) (.slice (some ⟨w1.heap.size, 0, none⟩) 24 24)).put (some 68) (.slice (some ⟨b, o, none⟩) m d)).put (some 69) (.int .i64 (i : Int))).put (some 70) (.pointer (some ⟨b, o + i, none⟩))).put (some 71) (.int .i64 x)).put (some 72) (.int .i64 (v : Int))).put (some 73) (.slice A5 n5 c5)).put (some 74) (.pointer (some ⟨w1.heap.size, v, none⟩))) ∧ w9.cell? ⟨w2.heap.size, 0, none⟩ = some (.slice (some ⟨w1.heap.size, 0, none⟩) 24 24) ∧ MtR w1 w9 w1.heap.size (τ.set v (subT ar t k).flat) ∧ Ext w1 w9) ?_ (fun a8 w8 hR => ?_)
            · refine wp_region_held_drew (S := (fun w' => w'.cell? ⟨w2.heap.size, 0, none⟩ = some (.slice (some ⟨w1.heap.size, 0, none⟩) 24 24) ∧ Ext w1 w')) (by kernel_rfl) (⟨Ext.keep (Ext.refl w7).drew hs8', hE17.drew⟩) (fun hH => ?_)
              refine wpAnyH_take_dst (i := 0) (v := .pointer (some ⟨w2.heap.size, 0, none⟩)) (d := some 66) rfl rfl (by kernel_rfl) (by kernel_rfl) (by kernel_rfl) (fun _ _ _ h => h) (Or.inl ⟨by rfl, ?_⟩) hH ?_
              · (intro w' hE'; (try dsimp only at hE'); obtain ⟨y0, y1⟩ := hE'; have y2 := Ext.keep y1 hcx1; go_simp; try with_reducible rfl)
              try simp only [Act.put, List.setIfInBounds_toArray, List.set_cons_zero, List.set_cons_succ]
              refine wpAnyH_take_dst (i := 1) (v := .slice (some ⟨w1.heap.size, 0, none⟩) 24 24) (d := some 67) rfl rfl (by kernel_rfl) (by kernel_rfl) (by kernel_rfl) (fun _ _ _ h => h) (Or.inl ⟨by rfl, ?_⟩) hH ?_
              · (intro w' hE'; (try dsimp only at hE'); obtain ⟨y0, y1⟩ := hE'; have y2 := Ext.keep y1 hcx1; go_simp; try with_reducible rfl)
              try simp only [Act.put, List.setIfInBounds_toArray, List.set_cons_zero, List.set_cons_succ]
              refine wpAnyH_take_dst (i := 2) (v := .slice (some ⟨b, o, none⟩) m d) (d := some 68) rfl rfl (by kernel_rfl) (by kernel_rfl) (by kernel_rfl) (fun _ _ _ h => h) (Or.inl ⟨by rfl, ?_⟩) hH ?_
              · (intro w' hE'; (try dsimp only at hE'); obtain ⟨y0, y1⟩ := hE'; have y2 := Ext.keep y1 hcx1; go_simp; try with_reducible rfl)
              try simp only [Act.put, List.setIfInBounds_toArray, List.set_cons_zero, List.set_cons_succ]
              refine wpAnyH_take_dst (i := 3) (v := .int .i64 (i : Int)) (d := some 69) rfl rfl (by kernel_rfl) (by kernel_rfl) (by kernel_rfl) (fun _ _ _ h => h) (Or.inl ⟨by rfl, ?_⟩) hH ?_
              · (intro w' hE'; (try dsimp only at hE'); obtain ⟨y0, y1⟩ := hE'; have y2 := Ext.keep y1 hcx1; go_simp; try with_reducible rfl)
              try simp only [Act.put, List.setIfInBounds_toArray, List.set_cons_zero, List.set_cons_succ]
              refine wpAnyH_take_dst (i := 4) (v := .pointer (some ⟨b, o + i, none⟩)) (d := some 70) rfl rfl (by kernel_rfl) (by kernel_rfl) (by kernel_rfl) (fun _ _ _ h => h) (Or.inl ⟨by rfl, ?_⟩) hH ?_
              · (intro w' hE'; (try dsimp only at hE'); obtain ⟨y0, y1⟩ := hE'; have y2 := Ext.keep y1 hcx1; go_simp; try with_reducible rfl)
              try simp only [Act.put, List.setIfInBounds_toArray, List.set_cons_zero, List.set_cons_succ]
              refine wpAnyH_take_dst (i := 5) (v := .int .i64 x) (d := some 71) rfl rfl (by kernel_rfl) (by kernel_rfl) (by kernel_rfl) (fun _ _ _ h => h) (Or.inl ⟨by rfl, ?_⟩) hH ?_
              · (intro w' hE'; (try dsimp only at hE'); obtain ⟨y0, y1⟩ := hE'; have y2 := Ext.keep y1 hcx1; go_simp; try with_reducible rfl)
              try simp only [Act.put, List.setIfInBounds_toArray, List.set_cons_zero, List.set_cons_succ]
              refine wpAnyH_take_dst (i := 6) (v := .int .i64 (v : Int)) (d := some 72) rfl rfl (by kernel_rfl) (by kernel_rfl) (by kernel_rfl) (fun _ _ _ h => h) (Or.inl ⟨by rfl, ?_⟩) hH ?_
              · (intro w' hE'; (try dsimp only at hE'); obtain ⟨y0, y1⟩ := hE'; have y2 := Ext.keep y1 hcx1; go_simp; try with_reducible rfl)
              try simp only [Act.put, List.setIfInBounds_toArray, List.set_cons_zero, List.set_cons_succ]
              refine wpAnyH_take_dst (i := 7) (v := .slice A5 n5 c5) (d := some 73) rfl rfl (by kernel_rfl) (by kernel_rfl) (by kernel_rfl) (fun _ _ _ h => h) (Or.inl ⟨by rfl, ?_⟩) hH ?_
              · (intro w' hE'; (try dsimp only at hE'); obtain ⟨y0, y1⟩ := hE'; have y2 := Ext.keep y1 hcx1; go_simp; try with_reducible rfl)
              try simp only [Act.put, List.setIfInBounds_toArray, List.set_cons_zero, List.set_cons_succ]
              refine wpAnyH_take_dst (i := 8) (v := .pointer (some ⟨w1.heap.size, v, none⟩)) (d := some 74) rfl rfl (by kernel_rfl) (by kernel_rfl) (by kernel_rfl) (fun _ _ _ h => h) (Or.inl ⟨by rfl, ?_⟩) hH ?_
              · (intro w' hE'; (try dsimp only at hE'); obtain ⟨y0, y1⟩ := hE'; have y2 := Ext.keep y1 hcx1; go_simp; try with_reducible rfl)
              try simp only [Act.put, List.setIfInBounds_toArray, List.set_cons_zero, List.set_cons_succ]
              refine wpAnyH_ready (rs := [9]) (by kernel_rfl) (by simp) ?_
              refine AllReadyH.cons rfl (fun K hK => ?_) AllReadyH.nil
              rw [if_pos (by rfl)]
              obtain ⟨_, _, _, z0, zf, _⟩ := (HR7.out.ext (Ext.refl w7).drew).at_ hv24; go_wp2_with fail
              refine hK.out _ _ (⟨(World.cell?_setCell_other _ _ _ _ (by first | (simp; done) | (simp; omega))).trans hH.1, Ext.set hH.2 (Nat.le_refl _) _⟩) (fun hH9 => ?_)
              clear hK; have hH0 := hH; clear hH; have hH := hH9; clear hH9
              try simp only [Act.put, List.setIfInBounds_toArray, List.set_cons_zero, List.set_cons_succ]
              refine wpAnyH_done (by kernel_rfl) ?_ _
              exact ⟨by rfl, hH.1, (by first | exact MtR.set HR7.out hv24 HTL.out (by decide) (HO5.out.ext hE57) | exact MtR.set (HR7.out.ext (Ext.refl w7).drew) hv24 HTL.out (by decide) ((HO5.out.ext hE57).ext (Ext.refl w7).drew)), hH.2⟩
            obtain ⟨ha, ⟨hb88, hR8, hE88⟩⟩ := hR
            simp only [Act.put, List.setIfInBounds_toArray, List.set_cons_zero, List.set_cons_succ] at ha
            subst ha
            have HR8 := Lib.hid hR8
            clear hR8
            go_wp2_with fail
            go_roundw
            case rel => exact ⟨k + n5, i + 1, by go_num, by go_num, by omega, by omega, Lib.hid ⟨_, HR8.out, HNX.out⟩, hE88, hb88⟩
            case measure => simp only [intOf]; omega
          · have hn6p : (n6 : Int) > 0 := by omega
            have hn6n : 0 < n6 := by omega
            have hd6 : decide ((n6 : Int) > 0) = true := by simp; omega
            clear hl6
            cases hsm : (τ.getD v [] == (subT ar t k).flat) with
            | false =>
              have HSM := Lib.hid hsm
              clear hsm
              go_wp2_with fail
              go_quiet (fail)
              go_wp2_with fail
              (with_reducible refine (c_SameTermM HSM.out (RdI.mk (RI.ext HO6.out (by exact extX))) (RdI.mk (RI.ext HO5.out.ri (by exact extX)))).mono ?_)
              rintro e w7 ⟨rfl, hE7⟩
              have hE57 : Ext w5 w7 := by exact extX
              have hE17 := Ext.trans hE15 hE57
              have ht2 := Ext.keep hE57 hs2
              have htf2 : ∀ j, w7.frozen? ⟨w.heap.size + 1, j, none⟩ = false := fun j => (Below.frozen (p := ⟨w.heap.size + 1, j, none⟩) hE17 hz2).trans (hf2 j)
              go_wp2_with fail
              refine bodyPost_ret (v := .tuple #[.agg #[.slice none 0 0], .bool false]) (by simp [results, Try.results94, go_sem, ht2, htf2]) rfl ?_
              exact NewMt.no (HMP.out.no_var HT.out HX.out hx0 (by rw [HVX.out]; intro e; have h9 := HL6.out; rw [e] at h9; simp at h9; omega) (by rw [HVX.out]; exact HSM.out)) (Ext.set (Ext.trans hE1 hE17) (by show w.heap.size ≤ w.heap.size + 1; omega) _)
            | true =>
              have HSM := Lib.hid hsm
              have HOLD := Lib.hid (show τ.getD v [] = (subT ar t k).flat by simpa using hsm)
              clear hsm
              go_wp2_with fail
              go_quiet (fail)
              go_wp2_with fail
              (with_reducible refine (c_SameTermM HSM.out (RdI.mk (RI.ext HO6.out (by exact extX))) (RdI.mk (RI.ext HO5.out.ri (by exact extX)))).mono ?_)
              rintro e w7 ⟨rfl, hE7⟩
              have hE57 : Ext w5 w7 := by exact extX
              have hs8' := Ext.keep hE57 hs8
              go_wp2_with fail
              have HR7 := Lib.hid (HR5.out.ext hE57)
              have hE17 := Ext.trans hE15 hE57
              have HNX := Lib.hid (HMP.out.var HX.out hx0 hx24 HTS.out.1 HTS.out.2.2 (.inr (by rw [HVX.out]; exact HOLD.out)))
              rw [HVX.out, HL5.out] at HNX
              have hkb := HTS.out.2.1
              rw [HL5.out, HLA.out] at hkb
              refine wp_only (R := fun (a0 : Act) (a8 : Act) (w9 : World) => a8 = (((((((((a0.put (some 66) (.pointer (some ⟨w2.heap.size, 0, none⟩))).put (some 67) (.slice (some ⟨w1.heap.size, 0, none⟩) 24 24)).put (some 68) (.slice (some ⟨b, o, none⟩) m d)).put (some 69) (.int .i64 (i : Int))).put (some 70) (.pointer (some ⟨b, o + i, none⟩))).put (some 71) (.int .i64 x)).put (some 72) (.int .i64 (v : Int))).put (some 73) (.slice A5 n5 c5)).put (some 74) (.pointer (some ⟨w1.heap.size, v, none⟩))) ∧ w9.cell? ⟨w2.heap.size, 0, none⟩ = some (.slice (some ⟨w1.heap.size, 0, none⟩) 24 24) ∧ MtR w1 w9 w1.heap.size (τ.set v (subT ar t k).flat) ∧ Ext w1 w9) ?_ (fun a8 w8 hR => ?_)
              · refine wp_region_held_drew (S := (fun w' => w'.cell? ⟨w2.heap.size, 0, none⟩ = some (.slice (some ⟨w1.heap.size, 0, none⟩) 24 24) ∧ Ext w1 w')) (by kernel_rfl) (⟨Ext.keep (Ext.refl w7).drew hs8', hE17.drew⟩) (fun hH => ?_)
                refine wpAnyH_take_dst (i := 0) (v := .pointer (some ⟨w2.heap.size, 0, none⟩)) (d := some 66) rfl rfl (by kernel_rfl) (by kernel_rfl) (by kernel_rfl) (fun _ _ _ h => h) (Or.inl ⟨by rfl, ?_⟩) hH ?_
                · (intro w' hE'; (try dsimp only at hE'); obtain ⟨y0, y1⟩ := hE'; have y2 := Ext.keep y1 hcx1; go_simp; try with_reducible rfl)
                try simp only [Act.put, List.setIfInBounds_toArray, List.set_cons_zero, List.set_cons_succ]
                refine wpAnyH_take_dst (i := 1) (v := .slice (some ⟨w1.heap.size, 0, none⟩) 24 24) (d := some 67) rfl rfl (by kernel_rfl) (by kernel_rfl) (by kernel_rfl) (fun _ _ _ h => h) (Or.inl ⟨by rfl, ?_⟩) hH ?_
                · (intro w' hE'; (try dsimp only at hE'); obtain ⟨y0, y1⟩ := hE'; have y2 := Ext.keep y1 hcx1; go_simp; try with_reducible rfl)
                try simp only [Act.put, List.setIfInBounds_toArray, List.set_cons_zero, List.set_cons_succ]
                refine wpAnyH_take_dst (i := 2) (v := .slice (some ⟨b, o, none⟩) m d) (d := some 68) rfl rfl (by kernel_rfl) (by kernel_rfl) (by kernel_rfl) (fun _ _ _ h => h) (Or.inl ⟨by rfl, ?_⟩) hH ?_
                · (intro w' hE'; (try dsimp only at hE'); obtain ⟨y0, y1⟩ := hE'; have y2 := Ext.keep y1 hcx1; go_simp; try with_reducible rfl)
                try simp only [Act.put, List.setIfInBounds_toArray, List.set_cons_zero, List.set_cons_succ]
                refine wpAnyH_take_dst (i := 3) (v := .int .i64 (i : Int)) (d := some 69) rfl rfl (by kernel_rfl) (by kernel_rfl) (by kernel_rfl) (fun _ _ _ h => h) (Or.inl ⟨by rfl, ?_⟩) hH ?_
                · (intro w' hE'; (try dsimp only at hE'); obtain ⟨y0, y1⟩ := hE'; have y2 := Ext.keep y1 hcx1; go_simp; try with_reducible rfl)
                try simp only [Act.put, List.setIfInBounds_toArray, List.set_cons_zero, List.set_cons_succ]
                refine wpAnyH_take_dst (i := 4) (v := .pointer (some ⟨b, o + i, none⟩)) (d := some 70) rfl rfl (by kernel_rfl) (by kernel_rfl) (by kernel_rfl) (fun _ _ _ h => h) (Or.inl ⟨by rfl, ?_⟩) hH ?_
                · (intro w' hE'; (try dsimp only at hE'); obtain ⟨y0, y1⟩ := hE'; have y2 := Ext.keep y1 hcx1; go_simp; try with_reducible rfl)
                try simp only [Act.put, List.setIfInBounds_toArray, List.set_cons_zero, List.set_cons_succ]
                refine wpAnyH_take_dst (i := 5) (v := .int .i64 x) (d := some 71) rfl rfl (by kernel_rfl) (by kernel_rfl) (by kernel_rfl) (fun _ _ _ h => h) (Or.inl ⟨by rfl, ?_⟩) hH ?_
                · (intro w' hE'; (try dsimp only at hE'); obtain ⟨y0, y1⟩ := hE'; have y2 := Ext.keep y1 hcx1; go_simp; try with_reducible rfl)
                try simp only [Act.put, List.setIfInBounds_toArray, List.set_cons_zero, List.set_cons_succ]
                refine wpAnyH_take_dst (i := 6) (v := .int .i64 (v : Int)) (d := some 72) rfl rfl (by kernel_rfl) (by kernel_rfl) (by kernel_rfl) (fun _ _ _ h => h) (Or.inl ⟨by rfl, ?_⟩) hH ?_
                · (intro w' hE'; (try dsimp only at hE'); obtain ⟨y0, y1⟩ := hE'; have y2 := Ext.keep y1 hcx1; go_simp; try with_reducible rfl)
                try simp only [Act.put, List.setIfInBounds_toArray, List.set_cons_zero, List.set_cons_succ]
                refine wpAnyH_take_dst (i := 7) (v := .slice A5 n5 c5) (d := some 73) rfl rfl (by kernel_rfl) (by kernel_rfl) (by kernel_rfl) (fun _ _ _ h => h) (Or.inl ⟨by rfl, ?_⟩) hH ?_
                · (intro w' hE'; (try dsimp only at hE'); obtain ⟨y0, y1⟩ := hE'; have y2 := Ext.keep y1 hcx1; go_simp; try with_reducible rfl)
                try simp only [Act.put, List.setIfInBounds_toArray, List.set_cons_zero, List.set_cons_succ]
                refine wpAnyH_take_dst (i := 8) (v := .pointer (some ⟨w1.heap.size, v, none⟩)) (d := some 74) rfl rfl (by kernel_rfl) (by kernel_rfl) (by kernel_rfl) (fun _ _ _ h => h) (Or.inl ⟨by rfl, ?_⟩) hH ?_
                · (intro w' hE'; (try dsimp only at hE'); obtain ⟨y0, y1⟩ := hE'; have y2 := Ext.keep y1 hcx1; go_simp; try with_reducible rfl)
                try simp only [Act.put, List.setIfInBounds_toArray, List.set_cons_zero, List.set_cons_succ]
                refine wpAnyH_ready (rs := [9]) (by kernel_rfl) (by simp) ?_
                refine AllReadyH.cons rfl (fun K hK => ?_) AllReadyH.nil
                rw [if_pos (by rfl)]
                obtain ⟨_, _, _, z0, zf, _⟩ := (HR7.out.ext (Ext.refl w7).drew).at_ hv24; go_wp2_with fail
                refine hK.out _ _ (⟨(World.cell?_setCell_other _ _ _ _ (by first | (simp; done) | (simp; omega))).trans hH.1, Ext.set hH.2 (Nat.le_refl _) _⟩) (fun hH9 => ?_)
                clear hK; have hH0 := hH; clear hH; have hH := hH9; clear hH9
                try simp only [Act.put, List.setIfInBounds_toArray, List.set_cons_zero, List.set_cons_succ]
                refine wpAnyH_done (by kernel_rfl) ?_ _
                exact ⟨by rfl, hH.1, (by first | exact MtR.set HR7.out hv24 HTL.out (by decide) (HO5.out.ext hE57) | exact MtR.set (HR7.out.ext (Ext.refl w7).drew) hv24 HTL.out (by decide) ((HO5.out.ext hE57).ext (Ext.refl w7).drew)), hH.2⟩
              obtain ⟨ha, ⟨hb88, hR8, hE88⟩⟩ := hR
              simp only [Act.put, List.setIfInBounds_toArray, List.set_cons_zero, List.set_cons_succ] at ha
              subst ha
              have HR8 := Lib.hid hR8
              clear hR8
              go_wp2_with fail
              go_roundw
              case rel => exact ⟨k + n5, i + 1, by go_num, by go_num, by omega, by omega, Lib.hid ⟨_, HR8.out, HNX.out⟩, hE88, hb88⟩
              case measure => simp only [intOf]; omega
        · have hx0i : x ≥ 0 := by omega
          by_cases hxy : x = y
          · subst hxy
            have hne : (x != x) = false := by simp
            have HN := Lib.hid (HMP.out.sym HX.out hx0 HY.out)
            clear hx0
            go_wp2_with fail
            go_quiet (fail)
            go_wp2_with fail
            go_roundw
            case rel => exact ⟨k + 1, i + 1, by go_num, by go_num, by omega, by omega, Lib.hid ⟨τ, HR.out.ext (by exact extX), HN.out⟩, by exact extX, Ext.keep (by exact extX : Ext wr (wr.drewN nq)) hb8⟩
            case measure => simp only [intOf]; omega
          · have hne : (x != y) = true := by simpa using hxy
            clear hx0
            go_wp2_with fail
            go_quiet (fail)
            go_wp2_with fail
            refine bodyPost_ret (v := .tuple #[.agg #[.slice none 0 0], .bool false]) (by simp [results, Try.results94, go_sem, hr2, hrf2]) rfl ?_
            exact NewMt.no (HMP.out.no_sym HX.out (by omega) HY.out hxy) (Ext.set (hEw.drewN nq) (by show w.heap.size ≤ w.heap.size + 1; omega) _)
      · have hkni : (k : Int) ≥ (n : Int) := by omega
        go_wp2_with fail
        refine bodyPost_ret (v := .tuple #[.agg #[.slice none 0 0], .bool false]) (by simp [results, Try.results94, go_sem, hr2, hrf2]) rfl ?_
        exact NewMt.no (HMP.out.no_short HX.out (by have := HLA.out; omega)) (Ext.set hEw (by show w.heap.size ≤ w.heap.size + 1; omega) _)
    · obtain rfl : i = m := by omega
      have HDN := Lib.hid (HMP.out.done HP.out HT.out (by have := HLB.out; omega))
      have HSB := Lib.hid HMP.out.sub
      go_wp2_with fail
      (with_reducible refine (c_l2Plain (RdSub.mk (HR.out.rsg HTL.out)) HTL.out (by omega)).mono ?_)
      rintro e w6 ⟨A6, n6, c6, σ, rfl, hR6, hPL, hE6⟩
      have HR6 := Lib.hid hR6
      have HPL := Lib.hid hPL
      have hE16 := Ext.trans hE hE6
      have hs2 := Ext.keep hE6 hr2
      have hsf2 : ∀ j, w6.frozen? ⟨w.heap.size + 1, j, none⟩ = false := fun j => (Below.frozen (p := ⟨w.heap.size + 1, j, none⟩) hE16 hz2).trans (hf2 j)
      clear hR6 hPL
      go_wp2_with fail
      refine bodyPost_ret (v := .tuple #[.agg #[.slice A6 n6 c6], .bool true]) (by simp [results, Try.results94, go_sem, hs2, hsf2]) rfl ?_
      refine ⟨A6, n6, c6, σ, true, rfl, ?_, ⟨fun _ => ⟨HPL.out.sub HSB.out (by omega), ?_⟩, (fun h => by cases h)⟩, Ext.set (Ext.trans hE1 hE16) (by show w.heap.size ≤ w.heap.size + 1; omega) _⟩
      · exact (HR6.out.set (by show w.heap.size + 1 < wr.heap.size; omega) _).lower (by omega)
      · rw [← HDN.out]
        exact fill_congr fun x _ hx => HPL.out.gives (by rw [HTL.out]; exact Nat.le_refl _) hx

/-! Steps by the reference: all steps from a term. -/
def NewStp (w : World) (s : Sy) (t : List Int) (p k : Nat) (e : Ending) (w' : World) : Prop := ∃ (A : Option Addr) (n c : Nat) (to : List Int) (b : Bool), e = .returned (.tuple #[.slice A n c, .bool b]) ∧ OwI w' w.heap.size A n c to ∧ (b = true → StepP s t ⟨p, k, to⟩) ∧ Ext w w'
set_option maxRecDepth 100000 in
set_option maxHeartbeats 8000000 in
theorem c_l7Step {v0 : Value} {s : Sy} {t : List Int} {p k : Nat} {A : Option Addr} {n c : Nat} {w : World} (h0 : RdSyC w v0 s) (hs : SysP s) (h1 : RI w A n t) (hc : n ≤ c ∧ c ≤ 9223372036854775807) (ht : TermP s.ar t) (hp : p < t.length) (hk : k < s.rs.length) :
    Calls Try.prog 85 #[v0, .slice A n c, .int .i64 (p : Int), .int .i64 (k : Int)] w (NewStp w s t p k) := by
  obtain ⟨SA, sn, sc, B, m, d, rfl, ha, hb⟩ := h0
  have hkm : k < m := by rw [hb.len] at hk; exact hk
  obtain ⟨b, o, r, A1, m1, c1, A2, m2, c2, rfl, hr, hd1, hd2, hr1, hr2, hcap1, hcap2⟩ := RR.at_ hb hkm
  obtain ⟨hRL, hRR, _⟩ := hs.2.2 k r hr
  have HA := Lib.hid ha
  have HT := Lib.hid h1
  have HTP := Lib.hid ht
  have HPL := Lib.hid hp
  have HR := Lib.hid hr
  have HRL := Lib.hid hRL
  have HRR := Lib.hid hRR
  have HR1 := Lib.hid hr1
  have HR2 := Lib.hid hr2
  have HST := Lib.hid (sub_term ht hp)
  have hki : (k : Int) < (m : Int) := by omega
  have hk0 : (0 : Int) ≤ (k : Int) := by omega
  have hbl : b < w.heap.size := World.block_lt_of_cell? w _ hd1
  clear ha hb hs h1 ht hp hr hRL hRR hr1 hr2 hcap1 hcap2 hk
  go_enter Try.func85, Try.ntmps85
  go_wp2_with fail
  obtain ⟨w1, hw1⟩ : ∃ w1, w1 = (w.alloc (.cells #[.slice SA sn sc, .slice (some ⟨b, o, none⟩) m d] 49)).alloc (.cells #[.slice A1 m1 c1, .slice A2 m2 c2] 78) := ⟨_, rfl⟩
  have hs0 : w1.cell? ⟨w.heap.size, 0, none⟩ = some (.slice SA sn sc) := by rw [hw1]; simp [go_sem]
  have hq0 : w1.cell? ⟨w.heap.size + 1, 0, none⟩ = some (.slice A1 m1 c1) := by rw [hw1]; simp [go_sem]
  have hq1 : w1.cell? ⟨w.heap.size + 1, 1, none⟩ = some (.slice A2 m2 c2) := by rw [hw1]; simp [go_sem]
  have hE1 : Ext w w1 := by rw [hw1]; exact extX
  have hz1 : w.heap.size + 1 < w1.heap.size := by rw [hw1]; simp [go_sem]
  rw [← hw1]
  clear hw1
  refine wp_only (R := fun (a0 : Act) (a8 : Act) (w9 : World) => ∃ (A8 : Option Addr) (n8 : Nat) (c8 : Nat) (A10 : Option Addr) (n10 : Nat) (c10 : Nat) (b10 : Bool) (q : Nat), a8 = (((((((((((((((a0.put (some 21) (.pointer (some ⟨w.heap.size, 0, none⟩))).put (some 22) (.agg #[.slice SA sn sc])).put (some 23) (.pointer (some ⟨w.heap.size + 1, 0, none⟩))).put (some 24) (.slice A1 m1 c1)).put (some 25) (.pointer (some ⟨w.heap.size, 0, none⟩))).put (some 26) (.agg #[.slice SA sn sc])).put (some 27) (.slice A n c)).put (some 28) (.int .i64 (p : Int))).put (some 29) (.slice A8 n8 c8)).put (some 30) (.tuple #[.agg #[.slice A10 n10 c10], .bool b10])).put (some 20) (.tuple #[.agg #[.slice A10 n10 c10], .bool b10])).put (some 31) (.agg #[.slice A10 n10 c10])).put (some 32) (.bool b10)).put (some 11) (.pointer (some ⟨q, 0, none⟩))).put (some 12) (.bool b10)) ∧ (∃ σ, RSg w9 A10 n10 σ ∧ (b10 = true → SubP s.ar σ ∧ fill (gives σ) r.l = (subT s.ar t p).flat)) ∧ w9.cell? ⟨q, 0, none⟩ = some (.slice A10 n10 c10) ∧ Ext w1 w9) ?_ (fun a8 w5 hR => ?_)
  · refine wp_region_held_drew (S := (fun w' => Ext w1 w')) (by kernel_rfl) ((Ext.refl w1).drew) (fun hH => ?_)
    refine wpAnyH_take_dst (i := 0) (v := .pointer (some ⟨w.heap.size, 0, none⟩)) (d := some 21) rfl rfl (by kernel_rfl) (by kernel_rfl) (by kernel_rfl) (fun _ _ _ h => h) (Or.inl ⟨by rfl, ?_⟩) hH ?_
    · (intro w' hE'; (try dsimp only at hE'); have y0 := Ext.keep hE' hs0; have y1 := Ext.keep hE' hq0; go_simp; try with_reducible rfl)
    try simp only [Act.put, List.setIfInBounds_toArray, List.set_cons_zero, List.set_cons_succ]
    refine wpAnyH_take_dst (i := 1) (v := .agg #[.slice SA sn sc]) (d := some 22) rfl rfl (by kernel_rfl) (by kernel_rfl) (by kernel_rfl) (fun _ _ _ h => h) (Or.inl ⟨by rfl, ?_⟩) hH ?_
    · (intro w' hE'; (try dsimp only at hE'); have y0 := Ext.keep hE' hs0; have y1 := Ext.keep hE' hq0; go_simp; try with_reducible rfl)
    try simp only [Act.put, List.setIfInBounds_toArray, List.set_cons_zero, List.set_cons_succ]
    refine wpAnyH_take_dst (i := 2) (v := .pointer (some ⟨w.heap.size + 1, 0, none⟩)) (d := some 23) rfl rfl (by kernel_rfl) (by kernel_rfl) (by kernel_rfl) (fun _ _ _ h => h) (Or.inl ⟨by rfl, ?_⟩) hH ?_
    · (intro w' hE'; (try dsimp only at hE'); have y0 := Ext.keep hE' hs0; have y1 := Ext.keep hE' hq0; go_simp; try with_reducible rfl)
    try simp only [Act.put, List.setIfInBounds_toArray, List.set_cons_zero, List.set_cons_succ]
    refine wpAnyH_take_dst (i := 3) (v := .slice A1 m1 c1) (d := some 24) rfl rfl (by kernel_rfl) (by kernel_rfl) (by kernel_rfl) (fun _ _ _ h => h) (Or.inl ⟨by rfl, ?_⟩) hH ?_
    · (intro w' hE'; (try dsimp only at hE'); have y0 := Ext.keep hE' hs0; have y1 := Ext.keep hE' hq0; go_simp; try with_reducible rfl)
    try simp only [Act.put, List.setIfInBounds_toArray, List.set_cons_zero, List.set_cons_succ]
    refine wpAnyH_take_dst (i := 4) (v := .pointer (some ⟨w.heap.size, 0, none⟩)) (d := some 25) rfl rfl (by kernel_rfl) (by kernel_rfl) (by kernel_rfl) (fun _ _ _ h => h) (Or.inl ⟨by rfl, ?_⟩) hH ?_
    · (intro w' hE'; (try dsimp only at hE'); have y0 := Ext.keep hE' hs0; have y1 := Ext.keep hE' hq0; go_simp; try with_reducible rfl)
    try simp only [Act.put, List.setIfInBounds_toArray, List.set_cons_zero, List.set_cons_succ]
    refine wpAnyH_take_dst (i := 5) (v := .agg #[.slice SA sn sc]) (d := some 26) rfl rfl (by kernel_rfl) (by kernel_rfl) (by kernel_rfl) (fun _ _ _ h => h) (Or.inl ⟨by rfl, ?_⟩) hH ?_
    · (intro w' hE'; (try dsimp only at hE'); have y0 := Ext.keep hE' hs0; have y1 := Ext.keep hE' hq0; go_simp; try with_reducible rfl)
    try simp only [Act.put, List.setIfInBounds_toArray, List.set_cons_zero, List.set_cons_succ]
    refine wpAnyH_take_dst (i := 6) (v := .slice A n c) (d := some 27) rfl rfl (by kernel_rfl) (by kernel_rfl) (by kernel_rfl) (fun _ _ _ h => h) (Or.inl ⟨by rfl, ?_⟩) hH ?_
    · (intro w' hE'; (try dsimp only at hE'); have y0 := Ext.keep hE' hs0; have y1 := Ext.keep hE' hq0; go_simp; try with_reducible rfl)
    try simp only [Act.put, List.setIfInBounds_toArray, List.set_cons_zero, List.set_cons_succ]
    refine wpAnyH_take_dst (i := 7) (v := .int .i64 (p : Int)) (d := some 28) rfl rfl (by kernel_rfl) (by kernel_rfl) (by kernel_rfl) (fun _ _ _ h => h) (Or.inl ⟨by rfl, ?_⟩) hH ?_
    · (intro w' hE'; (try dsimp only at hE'); have y0 := Ext.keep hE' hs0; have y1 := Ext.keep hE' hq0; go_simp; try with_reducible rfl)
    try simp only [Act.put, List.setIfInBounds_toArray, List.set_cons_zero, List.set_cons_succ]
    refine wpAnyH_ready (rs := [8, 13]) (by kernel_rfl) (by simp) ?_
    refine AllReadyH.cons rfl (fun K hK => ?_) (AllReadyH.cons rfl (fun K hK => ?_) (AllReadyH.nil))
    · rw [if_pos (by rfl)]
      go_wp2_with fail; (with_reducible refine (c_l1SubT (RdSig.mk (RI.ext HA.out (Ext.trans hE1 hH))) (RI.ext HT.out (Ext.trans hE1 hH)) hc HTP.out HPL.out).mono ?_); rintro e w8 ⟨A8, n8, c8, rfl, hO8, hE8⟩; have hX8 := Ext.trans hH hE8
      refine hK.out _ _ (hX8) (fun hH9 => ?_)
      clear hK; have hH0 := hH; clear hH; have hH := hH9; clear hH9
      try simp only [Act.put, List.setIfInBounds_toArray, List.set_cons_zero, List.set_cons_succ]
      refine wpAnyH_ready (rs := [9, 13]) (by kernel_rfl) (by simp) ?_
      refine AllReadyH.cons rfl (fun K hK => ?_) (AllReadyH.cons rfl (fun K hK => ?_) (AllReadyH.nil))
      · rw [if_pos (by rfl)]
        go_wp2_with fail; (with_reducible refine (c_l4Match (RdSig.mk (RI.ext HA.out (Ext.trans hE1 hH))) (RdI.mk (RI.ext HR1.out (Ext.trans hE1 hH))) hO8.ri hO8.cap HRL.out HST.out.1).mono ?_); rintro e w10 ⟨A10, n10, c10, σ, b10, rfl, hR10, hM10, hE10⟩; have hX10 := Ext.trans hH hE10; have hz10 := hE10.size
        refine hK.out _ _ (hX10) (fun hH9 => ?_)
        clear hK; have hH0 := hH; clear hH; have hH := hH9; clear hH9
        try simp only [Act.put, List.setIfInBounds_toArray, List.set_cons_zero, List.set_cons_succ]
        refine wpAnyH_take_dst (i := 10) (v := .tuple #[.agg #[.slice A10 n10 c10], .bool b10]) (d := some 20) rfl rfl (by kernel_rfl) (by kernel_rfl) (by kernel_rfl) (fun _ _ _ h => h) (Or.inl ⟨by rfl, ?_⟩) hH ?_
        · (intro w' hE'; (try dsimp only at hE'); have y0 := Ext.keep hE' hs0; have y1 := Ext.keep hE' hq0; go_simp; try with_reducible rfl)
        try simp only [Act.put, List.setIfInBounds_toArray, List.set_cons_zero, List.set_cons_succ]
        refine wpAnyH_take_dst (i := 11) (v := .agg #[.slice A10 n10 c10]) (d := some 31) rfl rfl (by kernel_rfl) (by kernel_rfl) (by kernel_rfl) (fun _ _ _ h => h) (Or.inl ⟨by rfl, ?_⟩) hH ?_
        · (intro w' hE'; (try dsimp only at hE'); have y0 := Ext.keep hE' hs0; have y1 := Ext.keep hE' hq0; go_simp; try with_reducible rfl)
        try simp only [Act.put, List.setIfInBounds_toArray, List.set_cons_zero, List.set_cons_succ]
        refine wpAnyH_take_dst (i := 12) (v := .bool b10) (d := some 32) rfl rfl (by kernel_rfl) (by kernel_rfl) (by kernel_rfl) (fun _ _ _ h => h) (Or.inl ⟨by rfl, ?_⟩) hH ?_
        · (intro w' hE'; (try dsimp only at hE'); have y0 := Ext.keep hE' hs0; have y1 := Ext.keep hE' hq0; go_simp; try with_reducible rfl)
        try simp only [Act.put, List.setIfInBounds_toArray, List.set_cons_zero, List.set_cons_succ]
        refine wpAnyH_ready (rs := [13]) (by kernel_rfl) (by simp) ?_
        refine AllReadyH.cons rfl (fun K hK => ?_) AllReadyH.nil
        rw [if_pos (by rfl)]
        have hs13 := hH.size; go_wp2_with fail
        refine hK.out _ _ (hH.alloc _) (fun hH9 => ?_)
        clear hK; have hH0 := hH; clear hH; have hH := hH9; clear hH9
        try simp only [Act.put, List.setIfInBounds_toArray, List.set_cons_zero, List.set_cons_succ]
        refine wpAnyH_ready (rs := [14]) (by kernel_rfl) (by simp) ?_
        refine AllReadyH.cons rfl (fun K hK => ?_) AllReadyH.nil
        rw [if_pos (by rfl)]
        go_wp2_with fail
        refine hK.out _ _ (hX10.alloc _) (fun hH9 => ?_)
        clear hK; have hH0 := hH; clear hH; have hH := hH9; clear hH9
        try simp only [Act.put, List.setIfInBounds_toArray, List.set_cons_zero, List.set_cons_succ]
        refine wpAnyH_take_dst (i := 15) (v := .bool b10) (d := some 12) rfl rfl (by kernel_rfl) (by kernel_rfl) (by kernel_rfl) (fun _ _ _ h => h) (Or.inl ⟨by rfl, ?_⟩) hH ?_
        · (intro w' hE'; (try dsimp only at hE'); have y0 := Ext.keep hE' hs0; have y1 := Ext.keep hE' hq0; go_simp; try with_reducible rfl)
        try simp only [Act.put, List.setIfInBounds_toArray, List.set_cons_zero, List.set_cons_succ]
        refine wpAnyH_done (by kernel_rfl) ?_ _
        exact ⟨A8, n8, c8, A10, n10, c10, b10, _, by rfl, ⟨σ, (hR10.ext ((Ext.refl _).alloc _)).rsg, hM10.1⟩, by simp [go_sem], hH⟩
      · rw [if_pos (by rfl)]
        have hs13 := hH.size; go_wp2_with fail
        refine hK.out _ _ (hH.alloc _) (fun hH9 => ?_)
        clear hK; have hH0 := hH; clear hH; have hH := hH9; clear hH9
        try simp only [Act.put, List.setIfInBounds_toArray, List.set_cons_zero, List.set_cons_succ]
        refine wpAnyH_ready (rs := [9]) (by kernel_rfl) (by simp) ?_
        refine AllReadyH.cons rfl (fun K hK => ?_) AllReadyH.nil
        rw [if_pos (by rfl)]
        go_wp2_with fail; (with_reducible refine (c_l4Match (RdSig.mk (RI.ext HA.out (Ext.trans hE1 hH))) (RdI.mk (RI.ext HR1.out (Ext.trans hE1 hH))) (hO8.alloc _).ri hO8.cap HRL.out HST.out.1).mono ?_); rintro e w10 ⟨A10, n10, c10, σ, b10, rfl, hR10, hM10, hE10⟩; have hX10 := Ext.trans hH hE10; have hz10 := hE10.size
        refine hK.out _ _ (hX10) (fun hH9 => ?_)
        clear hK; have hH0 := hH; clear hH; have hH := hH9; clear hH9
        try simp only [Act.put, List.setIfInBounds_toArray, List.set_cons_zero, List.set_cons_succ]
        refine wpAnyH_take_dst (i := 10) (v := .tuple #[.agg #[.slice A10 n10 c10], .bool b10]) (d := some 20) rfl rfl (by kernel_rfl) (by kernel_rfl) (by kernel_rfl) (fun _ _ _ h => h) (Or.inl ⟨by rfl, ?_⟩) hH ?_
        · (intro w' hE'; (try dsimp only at hE'); have y0 := Ext.keep hE' hs0; have y1 := Ext.keep hE' hq0; go_simp; try with_reducible rfl)
        try simp only [Act.put, List.setIfInBounds_toArray, List.set_cons_zero, List.set_cons_succ]
        refine wpAnyH_take_dst (i := 11) (v := .agg #[.slice A10 n10 c10]) (d := some 31) rfl rfl (by kernel_rfl) (by kernel_rfl) (by kernel_rfl) (fun _ _ _ h => h) (Or.inl ⟨by rfl, ?_⟩) hH ?_
        · (intro w' hE'; (try dsimp only at hE'); have y0 := Ext.keep hE' hs0; have y1 := Ext.keep hE' hq0; go_simp; try with_reducible rfl)
        try simp only [Act.put, List.setIfInBounds_toArray, List.set_cons_zero, List.set_cons_succ]
        refine wpAnyH_take_dst (i := 12) (v := .bool b10) (d := some 32) rfl rfl (by kernel_rfl) (by kernel_rfl) (by kernel_rfl) (fun _ _ _ h => h) (Or.inl ⟨by rfl, ?_⟩) hH ?_
        · (intro w' hE'; (try dsimp only at hE'); have y0 := Ext.keep hE' hs0; have y1 := Ext.keep hE' hq0; go_simp; try with_reducible rfl)
        try simp only [Act.put, List.setIfInBounds_toArray, List.set_cons_zero, List.set_cons_succ]
        refine wpAnyH_ready (rs := [14]) (by kernel_rfl) (by simp) ?_
        refine AllReadyH.cons rfl (fun K hK => ?_) AllReadyH.nil
        rw [if_pos (by rfl)]
        have z0 : w10.cell? ⟨w8.heap.size, 0, none⟩ = some (.slice none 0 0) := Ext.keep hE10 (by simp [go_sem]); have zf : ∀ j, w10.frozen? ⟨w8.heap.size, j, none⟩ = false := fun j => (Below.frozen (p := ⟨w8.heap.size, j, none⟩) hE10 (by simp)).trans (by simp [go_sem]); go_wp2_with fail
        refine hK.out _ _ (Ext.set hX10 hs13 _) (fun hH9 => ?_)
        clear hK; have hH0 := hH; clear hH; have hH := hH9; clear hH9
        try simp only [Act.put, List.setIfInBounds_toArray, List.set_cons_zero, List.set_cons_succ]
        refine wpAnyH_take_dst (i := 15) (v := .bool b10) (d := some 12) rfl rfl (by kernel_rfl) (by kernel_rfl) (by kernel_rfl) (fun _ _ _ h => h) (Or.inl ⟨by rfl, ?_⟩) hH ?_
        · (intro w' hE'; (try dsimp only at hE'); have y0 := Ext.keep hE' hs0; have y1 := Ext.keep hE' hq0; go_simp; try with_reducible rfl)
        try simp only [Act.put, List.setIfInBounds_toArray, List.set_cons_zero, List.set_cons_succ]
        refine wpAnyH_done (by kernel_rfl) ?_ _
        exact ⟨A8, n8, c8, A10, n10, c10, b10, _, by rfl, ⟨σ, (hR10.set (by simp) _).rsg, hM10.1⟩, World.cell?_setCell_same _ _ _ z0, hH⟩
    · rw [if_pos (by rfl)]
      have hs13 := hH.size; go_wp2_with fail
      refine hK.out _ _ (hH.alloc _) (fun hH9 => ?_)
      clear hK; have hH0 := hH; clear hH; have hH := hH9; clear hH9
      try simp only [Act.put, List.setIfInBounds_toArray, List.set_cons_zero, List.set_cons_succ]
      refine wpAnyH_ready (rs := [8]) (by kernel_rfl) (by simp) ?_
      refine AllReadyH.cons rfl (fun K hK => ?_) AllReadyH.nil
      rw [if_pos (by rfl)]
      go_wp2_with fail; (with_reducible refine (c_l1SubT (RdSig.mk (RI.ext HA.out (Ext.trans hE1 hH))) (RI.ext HT.out (Ext.trans hE1 hH)) hc HTP.out HPL.out).mono ?_); rintro e w8 ⟨A8, n8, c8, rfl, hO8, hE8⟩; have hX8 := Ext.trans hH hE8
      refine hK.out _ _ (hX8) (fun hH9 => ?_)
      clear hK; have hH0 := hH; clear hH; have hH := hH9; clear hH9
      try simp only [Act.put, List.setIfInBounds_toArray, List.set_cons_zero, List.set_cons_succ]
      refine wpAnyH_ready (rs := [9]) (by kernel_rfl) (by simp) ?_
      refine AllReadyH.cons rfl (fun K hK => ?_) AllReadyH.nil
      rw [if_pos (by rfl)]
      go_wp2_with fail; (with_reducible refine (c_l4Match (RdSig.mk (RI.ext HA.out (Ext.trans hE1 hH))) (RdI.mk (RI.ext HR1.out (Ext.trans hE1 hH))) hO8.ri hO8.cap HRL.out HST.out.1).mono ?_); rintro e w10 ⟨A10, n10, c10, σ, b10, rfl, hR10, hM10, hE10⟩; have hX10 := Ext.trans hH hE10; have hz10 := hE10.size
      refine hK.out _ _ (hX10) (fun hH9 => ?_)
      clear hK; have hH0 := hH; clear hH; have hH := hH9; clear hH9
      try simp only [Act.put, List.setIfInBounds_toArray, List.set_cons_zero, List.set_cons_succ]
      refine wpAnyH_take_dst (i := 10) (v := .tuple #[.agg #[.slice A10 n10 c10], .bool b10]) (d := some 20) rfl rfl (by kernel_rfl) (by kernel_rfl) (by kernel_rfl) (fun _ _ _ h => h) (Or.inl ⟨by rfl, ?_⟩) hH ?_
      · (intro w' hE'; (try dsimp only at hE'); have y0 := Ext.keep hE' hs0; have y1 := Ext.keep hE' hq0; go_simp; try with_reducible rfl)
      try simp only [Act.put, List.setIfInBounds_toArray, List.set_cons_zero, List.set_cons_succ]
      refine wpAnyH_take_dst (i := 11) (v := .agg #[.slice A10 n10 c10]) (d := some 31) rfl rfl (by kernel_rfl) (by kernel_rfl) (by kernel_rfl) (fun _ _ _ h => h) (Or.inl ⟨by rfl, ?_⟩) hH ?_
      · (intro w' hE'; (try dsimp only at hE'); have y0 := Ext.keep hE' hs0; have y1 := Ext.keep hE' hq0; go_simp; try with_reducible rfl)
      try simp only [Act.put, List.setIfInBounds_toArray, List.set_cons_zero, List.set_cons_succ]
      refine wpAnyH_take_dst (i := 12) (v := .bool b10) (d := some 32) rfl rfl (by kernel_rfl) (by kernel_rfl) (by kernel_rfl) (fun _ _ _ h => h) (Or.inl ⟨by rfl, ?_⟩) hH ?_
      · (intro w' hE'; (try dsimp only at hE'); have y0 := Ext.keep hE' hs0; have y1 := Ext.keep hE' hq0; go_simp; try with_reducible rfl)
      try simp only [Act.put, List.setIfInBounds_toArray, List.set_cons_zero, List.set_cons_succ]
      refine wpAnyH_ready (rs := [14]) (by kernel_rfl) (by simp) ?_
      refine AllReadyH.cons rfl (fun K hK => ?_) AllReadyH.nil
      rw [if_pos (by rfl)]
      have z0 : w10.cell? ⟨w1.heap.size, 0, none⟩ = some (.slice none 0 0) := Ext.keep hE10 (Ext.keep hE8 (by simp [go_sem])); have zf : ∀ j, w10.frozen? ⟨w1.heap.size, j, none⟩ = false := fun j => ((Below.frozen (p := ⟨w1.heap.size, j, none⟩) hE10 (by have := hE8.size; simp at this; show w1.heap.size < w8.heap.size; omega)).trans (Below.frozen (p := ⟨w1.heap.size, j, none⟩) hE8 (by simp))).trans (by simp [go_sem]); have hs8 := hE8.size; go_wp2_with fail
      refine hK.out _ _ (Ext.set hX10 (Nat.le_refl _) _) (fun hH9 => ?_)
      clear hK; have hH0 := hH; clear hH; have hH := hH9; clear hH9
      try simp only [Act.put, List.setIfInBounds_toArray, List.set_cons_zero, List.set_cons_succ]
      refine wpAnyH_take_dst (i := 15) (v := .bool b10) (d := some 12) rfl rfl (by kernel_rfl) (by kernel_rfl) (by kernel_rfl) (fun _ _ _ h => h) (Or.inl ⟨by rfl, ?_⟩) hH ?_
      · (intro w' hE'; (try dsimp only at hE'); have y0 := Ext.keep hE' hs0; have y1 := Ext.keep hE' hq0; go_simp; try with_reducible rfl)
      try simp only [Act.put, List.setIfInBounds_toArray, List.set_cons_zero, List.set_cons_succ]
      refine wpAnyH_done (by kernel_rfl) ?_ _
      exact ⟨A8, n8, c8, A10, n10, c10, b10, _, by rfl, ⟨σ, (hR10.set (by simp at hs8 ⊢; omega) _).rsg, hM10.1⟩, World.cell?_setCell_same _ _ _ z0, hH⟩
  obtain ⟨A8, n8, c8, A10, n10, c10, b10, q, ha, ⟨hσ5, hb5, hE5⟩⟩ := hR
  simp only [Act.put, List.setIfInBounds_toArray, List.set_cons_zero, List.set_cons_succ] at ha
  subst ha
  obtain ⟨σ, hR5, hM5⟩ := hσ5
  have HR5 := Lib.hid hR5
  have HM5 := Lib.hid hM5
  have hEw5 := Ext.trans hE1 hE5
  have hs05 := Ext.keep hE5 hs0
  have hq15 := Ext.keep hE5 hq1
  have hz5 := hEw5.size
  clear hR5 hM5
  cases b10 with
  | false =>
    go_wp2_with fail
    refine bodyPost_ret (v := .tuple #[.slice (some ⟨w5.heap.size, 0, none⟩) 0 0, .bool false]) (by simp [results, Try.results85, go_sem]) rfl ?_
    exact ⟨_, 0, 0, [], false, rfl, (OwI.none0 (Nat.le_refl _)).lower hz5, (fun h => by cases h), hEw5.alloc _⟩
  | true =>
    have HSB := Lib.hid (HM5.out rfl).1
    have HFL := Lib.hid (HM5.out rfl).2
    go_wp2_with fail
    (with_reducible refine (c_l2Filled HSB.out HRR.out (RdSub.mk HR5.out) (RI.ext HR2.out hEw5)).mono ?_)
    rintro e w6 ⟨A6, n6, c6, rfl, hO6, hE6⟩
    have hEw6 := Ext.trans hEw5 hE6
    have hs06 := Ext.keep hE6 hs05
    have hz6 := hEw6.size
    by_cases h60 : (fill (gives σ) r.r).length ≤ 60
    · have HFO := Lib.hid (fillO_some h60)
      rw [HFO.out] at hO6 ⊢
      have hl6 := hO6.len
      simp only [Option.getD_some] at hO6 hl6
      have HO6 := Lib.hid hO6
      have HL6 := Lib.hid hl6
      have hn6 : n6 ≤ 60 := by omega
      simp only [Option.isSome_some]
      clear hO6 hl6 h60
      go_wp2_with fail
      (with_reducible refine (c_l3Put (RdSig.mk (RI.ext HA.out hEw6)) (RI.ext HT.out hEw6) hc HO6.out.ri HTP.out HPL.out hn6).mono ?_)
      rintro e w7 ⟨A7, n7, c7, rfl, hO7, hE7⟩
      have HO7 := Lib.hid hO7
      clear hO7
      go_wp2_with fail
      refine bodyPost_ret (v := .tuple #[.slice A7 n7 c7, .bool (putO t p (p + (subT s.ar t p).flat.length) (fill (gives σ) r.r)).isSome]) (by simp [results, Try.results85, go_sem]) rfl ?_
      refine ⟨A7, n7, c7, _, _, rfl, HO7.out.lower hz6, fun hb => ?_, Ext.trans hEw6 hE7⟩
      unfold putO at hb ⊢
      by_cases h7 : (t.take p ++ fill (gives σ) r.r ++ t.drop (p + (subT s.ar t p).flat.length)).length ≤ 60
      · rw [if_pos h7]
        exact ⟨k, p, r, σ, rfl, rfl, HR.out, HPL.out, HSB.out, HFL.out, rfl, h7⟩
      · rw [if_neg h7] at hb; cases hb
    · have HFO := Lib.hid (fillO_none h60)
      rw [HFO.out]
      simp only [Option.isSome_none]
      clear hO6 h60
      go_wp2_with fail
      refine bodyPost_ret (v := .tuple #[.slice (some ⟨w6.heap.size, 0, none⟩) 0 0, .bool false]) (by simp [results, Try.results85, go_sem]) rfl ?_
      exact ⟨_, 0, 0, [], false, rfl, (OwI.none0 (Nat.le_refl _)).lower hz6, (fun h => by cases h), hEw6.alloc _⟩

/-! Steps by the reference: the list of all steps. -/
/-- A row of steps in blocks from lo on. -/
def RSt (lo : Nat) (w : World) (A : Option Addr) (n : Nat) (sts : List Stp) : Prop :=
  (sts.length = n ∧ n ≤ 4194304) ∧ ∀ (j : Nat) (q : Stp), sts[j]? = some q → ∃ b o A' m' c', A = some ⟨b, o, none⟩ ∧ lo ≤ b ∧ w.cell? ⟨b, o + j * 3, none⟩ = some (.int .i64 q.at_) ∧ w.cell? ⟨b, o + j * 3 + 1, none⟩ = some (.int .i64 q.rule) ∧
    w.cell? ⟨b, o + j * 3 + 2, none⟩ = some (.slice A' m' c') ∧ (m' ≤ c' ∧ c' ≤ 9223372036854775807) ∧ RI w A' m' q.to ∧ ∀ b' o' s', A' = some ⟨b', o', s'⟩ → lo ≤ b'
section
variable {lo : Nat} {w w' : World} {A : Option Addr} {n k g : Nat} {sts : List Stp}
theorem RSt.ext (h : RSt lo w A n sts) (k : Ext w w') : RSt lo w' A n sts := ⟨h.1, fun j q hq => by
  obtain ⟨b, o, A', m', c', e, h0, h1, h2, h3, h4, h5, h6⟩ := h.2 j q hq
  exact ⟨b, o, A', m', c', e, h0, Ext.keep k h1, Ext.keep k h2, Ext.keep k h3, h4, h5.ext k, h6⟩⟩
theorem RSt.only (h : RSt lo w A n sts) (hk : Only w w' g) (hg : g < lo) : RSt lo w' A n sts := ⟨h.1, fun j q hq => by
  obtain ⟨b, o, A', m', c', e, h0, h1, h2, h3, h4, h5, h6⟩ := h.2 j q hq
  have hb : ∀ {i : Nat} {v : Value}, w.cell? ⟨b, i, none⟩ = some v → w'.cell? ⟨b, i, none⟩ = some v := fun {i v} hc => by
    rw [World.cell?_of_block (w := w) (w' := w') (a := ⟨b, i, none⟩) (hk.block _ (World.block_lt_of_cell? w _ hc) (fun e => by have e2 : b = g := Option.some.inj e; omega))]; exact hc
  exact ⟨b, o, A', m', c', e, h0, hb h1, hb h2, hb h3, h4, RI.only h5 hk (fun b' o' s' e' _ => by have := h6 b' o' s' e'; omega), h6⟩⟩
theorem RSt.lower {lo' : Nat} (h : RSt lo w A n sts) (hl : lo' ≤ lo) : RSt lo' w A n sts := ⟨h.1, fun j q hq => by
  obtain ⟨b, o, A', m', c', e, h0, h1, h2, h3, h4, h5, h6⟩ := h.2 j q hq
  exact ⟨b, o, A', m', c', e, by omega, h1, h2, h3, h4, h5, fun b' o' s' e' => by have := h6 b' o' s' e'; omega⟩⟩
theorem RSt.at_ (h : RSt lo w A n sts) (hk : k < n) : ∃ b o q A' m' c', A = some ⟨b, o, none⟩ ∧ sts[k]? = some q ∧ lo ≤ b ∧ w.cell? ⟨b, o + k * 3, none⟩ = some (.int .i64 q.at_) ∧ w.cell? ⟨b, o + k * 3 + 1, none⟩ = some (.int .i64 q.rule) ∧
    w.cell? ⟨b, o + k * 3 + 2, none⟩ = some (.slice A' m' c') ∧ (m' ≤ c' ∧ c' ≤ 9223372036854775807) ∧ RI w A' m' q.to ∧ ∀ b' o' s', A' = some ⟨b', o', s'⟩ → lo ≤ b' := by
  have hl : k < sts.length := by rw [h.1.1]; exact hk
  have hx := List.getElem?_eq_getElem hl
  obtain ⟨b, o, A', m', c', e, hh⟩ := h.2 k _ hx
  exact ⟨b, o, _, A', m', c', e, hx, hh⟩
end
/-- A row of steps of the call's own. -/
def StO (w0 w : World) (A : Option Addr) (n c : Nat) (sts : List Stp) : Prop :=
  (sts.length = n ∧ n ≤ 4194304) ∧ ∃ cs, w.ownsRow w0.heap.size 62 3 (.slice A n c) n cs ∧ ∀ (j : Nat) (q : Stp), sts[j]? = some q → cs[j * 3]? = some (.int .i64 q.at_) ∧ cs[j * 3 + 1]? = some (.int .i64 q.rule) ∧
    ∃ A' m' c', cs[j * 3 + 2]? = some (.slice A' m' c') ∧ OwI w w0.heap.size A' m' c' q.to
section
variable {w0 w w' : World} {A : Option Addr} {n c : Nat} {sts : List Stp}
theorem StO.ext (h : StO w0 w A n c sts) (k : Ext w w') : StO w0 w' A n c sts := by
  obtain ⟨h0, cs, h1, h2⟩ := h
  refine ⟨h0, cs, ownsRow_heap h1 (fun b e => k.block b (ownsRow_at h1 e).2.1), fun j q hq => ?_⟩
  obtain ⟨e1, e2, A', m', c', e3, e4⟩ := h2 j q hq
  exact ⟨e1, e2, A', m', c', e3, e4.ext k⟩
theorem StO.rst {lo : Nat} (h : StO w0 w A n c sts) (hlo : lo ≤ w0.heap.size) : RSt lo w A n sts := by
  obtain ⟨h0, cs, h1, h2⟩ := h
  refine ⟨h0, fun j q hq => ?_⟩
  have hj : j < n := by have := (List.getElem?_eq_some_iff.1 hq).1; have := h0.1; omega
  obtain ⟨e1, e2, A', m', c', e3, e4⟩ := h2 j q hq
  obtain ⟨b, cap, hv, hb, hbl⟩ := World.ownsRow.form h1 (by omega)
  cases hv
  refine ⟨b, 0, A', m', c', rfl, by omega, ?_, ?_, ?_, e4.cap, e4.ri, fun b' o' s' e => by have := (e4.bd b' o' s' e).1; omega⟩
  · rw [Nat.zero_add, World.ownsRow.cellAt h1 (j * 3) (by omega)]; exact e1
  · rw [Nat.zero_add, World.ownsRow.cellAt h1 (j * 3 + 1) (by omega)]; exact e2
  · rw [Nat.zero_add, World.ownsRow.cellAt h1 (j * 3 + 2) (by omega)]; exact e3
theorem StO.push {wx : World} {A2 A5 : Option Addr} {c2 n5 c5 : Nat} {cs : List Value} {q : Stp} {o : Obj} (h : StO w0 w A n c sts) (hn : n + 1 ≤ 4194304)
    (hrow : w.ownsRow w0.heap.size 62 3 (.slice A n c) n cs) (hel : ∀ (j : Nat) (q : Stp), sts[j]? = some q → cs[j * 3]? = some (.int .i64 q.at_) ∧ cs[j * 3 + 1]? = some (.int .i64 q.rule) ∧ ∃ A' m' c', cs[j * 3 + 2]? = some (.slice A' m' c') ∧ OwI w w0.heap.size A' m' c' q.to)
    (hO : OwI w w0.heap.size A5 n5 c5 q.to) (hown : wx.ownsRow w0.heap.size 62 3 (.slice A2 (n + 1) c2) (n + 1) (cs ++ [.int .i64 q.at_, .int .i64 q.rule, .slice A5 n5 c5])) (hg : (w.alloc o).grownBy wx (Value.slice A n c).ownBlock) :
    StO w0 wx A2 (n + 1) c2 (sts ++ [q]) := by
  have hcl : cs.length = n * 3 := hrow.1
  have hkeep : ∀ {A' : Option Addr} {m' c' : Nat} {xs : List Int}, OwI w w0.heap.size A' m' c' xs → OwI wx w0.heap.size A' m' c' xs := fun {A' m' c' xs} hO => by
    refine hO.heap fun b e => ?_
    rcases hO.blk with e0 | ⟨b', cur, e0, _, hb⟩
    · rw [e0] at e; cases e
    · rw [e0] at e; cases e
      have hbl := (Array.getElem?_eq_some_iff.1 hb).1
      refine (hg.block b (by simp; omega) (fun e2 => ?_)).trans (((Ext.refl w).alloc o).block b hbl)
      obtain ⟨_, _, cur2, k2⟩ := ownsRow_at hrow e2.symm
      rw [hb] at k2; cases k2
  have hsl := h.1.1
  refine ⟨⟨by simp [hsl], hn⟩, _, hown, fun j p hp => ?_⟩
  rcases Nat.lt_or_ge j n with hj | hj
  · rw [List.getElem?_append_left (by omega)] at hp
    obtain ⟨e1, e2, A', m', c', e3, e4⟩ := hel j p hp
    exact ⟨by rw [List.getElem?_append_left (by omega)]; exact e1, by rw [List.getElem?_append_left (by omega)]; exact e2, A', m', c', by rw [List.getElem?_append_left (by omega)]; exact e3, hkeep e4⟩
  · have hj2 : j = n := by have := (List.getElem?_eq_some_iff.1 hp).1; simp at this; omega
    subst hj2
    rw [List.getElem?_append_right (by omega), hsl, Nat.sub_self] at hp
    cases hp
    refine ⟨?_, ?_, A5, n5, c5, ?_, hkeep hO⟩
    · rw [List.getElem?_append_right (by omega), hcl, Nat.sub_self]; rfl
    · rw [List.getElem?_append_right (by omega), hcl, show j * 3 + 1 - j * 3 = 1 by omega]; rfl
    · rw [List.getElem?_append_right (by omega), hcl, show j * 3 + 2 - j * 3 = 2 by omega]; rfl
end
theorem all_snoc {s : Sy} {t : List Int} {sts : List Stp} {q : Stp} (h : ∀ x ∈ sts, StepP s t x) (hq : StepP s t q) : ∀ x ∈ sts ++ [q], StepP s t x := fun x hx => by
  rcases List.mem_append.1 hx with hx | hx
  · exact h x hx
  · rw [List.mem_singleton.1 hx]; exact hq
theorem step_infoE : (Try.prog.info? 62).map (fun i => (i.zero, i.size, i.bytes)) = some (some (.agg #[.int .i64 0, .int .i64 0, .slice none 0 0]), 3, 40) := by kernel_rfl
def NewSts (w : World) (s : Sy) (t : List Int) (e : Ending) (w' : World) : Prop := ∃ (A : Option Addr) (n c : Nat) (sts : List Stp), e = .returned (.slice A n c) ∧ RSt w.heap.size w' A n sts ∧ n ≤ 720 ∧ (∀ q ∈ sts, StepP s t q) ∧ Ext w w'
set_option maxRecDepth 100000 in
set_option maxHeartbeats 8000000 in
theorem c_l7Steps {v0 : Value} {s : Sy} {t : List Int} {A : Option Addr} {n c : Nat} {w : World} (h0 : RdSyC w v0 s) (hs : SysP s) (h1 : RI w A n t) (hc : n ≤ c ∧ c ≤ 9223372036854775807) (ht : TermP s.ar t) :
    Calls Try.prog 62 #[v0, .slice A n c] w (NewSts w s t) := by
  obtain ⟨SA, sn, sc, B, m, d, rfl, ha, hb⟩ := h0
  have HA := Lib.hid ha
  have HB := Lib.hid hb
  have HT := Lib.hid h1
  have HTP := Lib.hid ht
  have HS := Lib.hid hs
  have HLN := Lib.hid h1.len
  have HLM := Lib.hid hb.len
  have hn60 : n ≤ 60 := by rw [← h1.len]; exact ht.2.1.2
  have hm12 : m ≤ 12 := by rw [← hb.len]; exact hs.2.1
  obtain ⟨i0, hii, hiz, his, hib⟩ := info_parts step_infoE
  clear ha hb h1 ht hs
  go_enter Try.func62, Try.ntmps62
  go_wp2_with fail
  obtain ⟨w1, hw1⟩ : ∃ w1, w1 = w.alloc (.cells #[.slice SA sn sc, .slice B m d] 49) := ⟨_, rfl⟩
  have hs0 : w1.cell? ⟨w.heap.size, 0, none⟩ = some (.slice SA sn sc) := by rw [hw1]; simp [go_sem]
  have hs1 : w1.cell? ⟨w.heap.size, 1, none⟩ = some (.slice B m d) := by rw [hw1]; simp [go_sem]
  have hE1 : Ext w w1 := by rw [hw1]; exact extX
  have hz1 : w1.heap.size = w.heap.size + 1 := by rw [hw1]; simp [go_sem]
  rw [← hw1, ← hz1]
  have hz2 : w.heap.size + 1 ≤ w1.heap.size := by omega
  clear hw1 hz1
  go_loopw [5, 6] (fun ov av wr => ∃ a : Nat, av = .int .i64 a ∧ a ≤ n ∧ (∃ A9 n9 c9, ov = .slice A9 n9 c9 ∧ n9 ≤ 12 * a ∧ Hid (∃ sts, StO w1 wr A9 n9 c9 sts ∧ ∀ q ∈ sts, StepP s t q)) ∧ Ext w1 wr) (fun _ av _ => n - (intOf av).toNat)
  case atStart => exact ⟨0, rfl, Nat.zero_le _, ⟨_, 0, 0, rfl, Nat.le_refl _, Lib.hid ⟨[], ⟨⟨rfl, by omega⟩, [], World.ownsRow_made w1 #[] 0 (Nat.le_refl _) (by decide) rfl, fun j q hq => by simp at hq⟩, fun q hq => by cases hq⟩⟩, (Ext.refl _).alloc _⟩
  case round =>
    obtain ⟨a, rfl, hak, ⟨A9, n9, c9, rfl, hn9, hI⟩, hE⟩ := hrel
    have hr1 := Ext.keep hE hs1
    obtain ⟨wo, rfl⟩ : ∃ wo : World, wo = wr := ⟨_, rfl⟩
    by_cases hlt : a < n
    · have hai : (a : Int) < (n : Int) := by omega
      have hat : a < t.length := by have := HLN.out; omega
      go_wp2_with fail
      go_loopw [5, 7] (fun ov rv wr => ∃ k : Nat, rv = .int .i64 k ∧ k ≤ m ∧ (∃ A9 n9 c9, ov = .slice A9 n9 c9 ∧ n9 ≤ 12 * a + k ∧ Hid (∃ sts, StO w1 wr A9 n9 c9 sts ∧ ∀ q ∈ sts, StepP s t q)) ∧ Ext w1 wr) (fun _ rv _ => m - (intOf rv).toNat)
      case atStart => exact ⟨0, rfl, Nat.zero_le _, ⟨_, _, _, rfl, by omega, hI⟩, hE⟩
      case round =>
        obtain ⟨k, rfl, hkm, ⟨A8, n8, c8, rfl, hn8, hI8⟩, hE8⟩ := hrel
        have hEw8 := Ext.trans hE1 hE8
        have hr0 := Ext.keep hE8 hs0
        have hr1 := Ext.keep hE8 hs1
        have hsz8 := hE8.size
        by_cases hlk : k < m
        · have hki : (k : Int) < (m : Int) := by omega
          have hkl : k < s.rs.length := by have := HLM.out; omega
          go_wp2_with fail
          (with_reducible refine (c_l7Step (RdSyK.mk (RI.ext HA.out hEw8) (RR.ext HB.out hEw8)) HS.out (RI.ext HT.out hEw8) hc HTP.out hat hkl).mono ?_)
          rintro e w5 ⟨A5, n5, c5, to, b5, rfl, hO5, hP5, hE5⟩
          have HO5 := Lib.hid (hO5.lower hsz8)
          have HP5 := Lib.hid hP5
          have hE15 := Ext.trans hE8 hE5
          have hsz5 := hE15.size
          obtain ⟨sts, hS, hall⟩ := hI8.out
          have HS5 := Lib.hid (hS.ext hE5)
          have HAL := Lib.hid hall
          clear hO5 hP5 hS hall
          cases b5 with
          | false =>
            go_wp2_with fail
            go_roundw
            case rel => exact ⟨k + 1, by go_num, by omega, ⟨_, _, _, rfl, by omega, Lib.hid ⟨sts, HS5.out, HAL.out⟩⟩, hE15⟩
            case measure => simp only [intOf]; omega
          | true =>
            obtain ⟨cs, hrow, hel⟩ := HS5.out.2
            have HROW := Lib.hid hrow
            have HEL := Lib.hid hel
            have hrow2 := Lib.hid (ownsRow_heap (w' := w5.alloc (.cells #[.int .i64 (a : Int), .int .i64 (k : Int), .slice A5 n5 c5] 62)) hrow (fun b e => ((Ext.refl _).alloc _).block b (ownsRow_at hrow e).2.1))
            clear hrow hel
            go_wp2_with (at_builtin; go_loud (refine wpList_append_lies _ rfl (.tmp 33) (.tmp 38) 59 rfl w1.heap.size 62 i0 (.agg #[.int .i64 0, .int .i64 0, .slice none 0 0]) 3 40 Try.underlying59 hii hiz his hib rfl (by decide) _ n8 _ rfl hrow2.out ⟨w5.heap.size, 0, none⟩ 1 1 [.int .i64 (a : Int), .int .i64 (k : Int), .slice A5 n5 c5] rfl rfl (World.news_of_block (heap_alloc_new w5 _)) (by intro u hu; simp at hu; rcases hu with rfl | rfl | rfl <;> rfl) (by decide) (by unfold maxLen; omega) (by omega) (by simp; omega) _ rfl ?_))
            intro g4 cap wx hown hg hat2 hltg
            have HN := Lib.hid (StO.push (q := ⟨a, k, to⟩) HS5.out (by omega) HROW.out HEL.out HO5.out hown hg)
            have hEx : Ext w1 wx := Ext.grown (hE15.alloc _) hg (fun b hb => (ownsRow_at HROW.out hb).1)
            have HAN := Lib.hid (all_snoc HAL.out (HP5.out (by first | rfl | trivial)))
            clear hown hg hat2
            go_wp2_with fail
            go_roundw
            case rel => exact ⟨k + 1, by go_num, by omega, ⟨_, _, _, rfl, by omega, Lib.hid ⟨_, HN.out, HAN.out⟩⟩, hEx⟩
            case measure => simp only [intOf]; omega
        · obtain rfl : k = m := by omega
          go_wp2_with fail
          go_roundw
          case rel => exact ⟨a + 1, by go_num, by omega, ⟨_, _, _, rfl, by omega, hI8⟩, hE8⟩
          case measure => simp only [intOf]; omega
    · obtain rfl : a = n := by omega
      go_wp2_with fail
      go_ret
      obtain ⟨sts, hS, hall⟩ := hI.out
      exact ⟨A9, n9, c9, sts, rfl, hS.rst (by omega), by omega, hall, Ext.trans hE1 hE⟩
theorem c_l7Right {v0 : Value} {s : Sy} {t : List Int} {v1 : Value} {w : World} (h0 : RdSyC w v0 s) (hs : SysP s) (h1 : RdI w v1 t) (ht : TermP s.ar t) :
    Calls Try.prog 61 #[v0, v1] w fun e w' => e = .returned (.bool true) ∧ Ext w w' := by
  obtain ⟨SA, sn, sc, B, m, d, rfl, ha, hb⟩ := h0
  obtain ⟨A, n, c, rfl, h1⟩ := h1
  have HA := Lib.hid ha
  have HB := Lib.hid hb
  have HT := Lib.hid h1
  have HTP := Lib.hid (termOk_iff.2 ht)
  have HS := Lib.hid (sysOk_iff.2 hs)
  clear ha hb h1 ht hs
  go_enter Try.func61, Try.ntmps61
  go_wp2_with fail
  (with_reducible refine (show Calls Try.prog 49 #[.agg #[.slice SA sn sc, .slice B m d]] _ _ from (c_sSystemOk (RdSyK.mk (k := true) (s := s) (RI.ext HA.out (by exact extX)) (RR.ext HB.out (by exact extX)))).mono ?_))
  rintro e w2 ⟨rfl, hE2⟩
  have hb0 : w2.cell? ⟨w.heap.size, 0, none⟩ = some (.slice SA sn sc) := Ext.keep hE2 (by simp [go_sem])
  have hE02 : Ext w w2 := by exact extX
  rw [HS.out]
  go_wp2_with fail
  (with_reducible refine (show Calls Try.prog 37 #[.agg #[.slice SA sn sc], .slice A n c] _ _ from (c_sTermOk (RdSig.mk (RI.ext HA.out hE02)) (RdI.mk (RI.ext HT.out hE02))).mono ?_))
  rintro e w3 ⟨rfl, hE3⟩
  rw [HTP.out]
  go_wp2_with fail
  go_ret
  exact ⟨rfl, Ext.trans hE02 hE3⟩
set_option maxRecDepth 100000 in
set_option maxHeartbeats 2000000 in
theorem c_StepsFrom {v0 : Value} {s : Sy} {t : List Int} {A : Option Addr} {n c : Nat} {w : World} (h0 : RdSyC w v0 s) (hs : SysP s) (h1 : RI w A n t) (hc : n ≤ c ∧ c ≤ 9223372036854775807) (ht : TermP s.ar t) :
    Calls Try.prog 30 #[v0, .slice A n c] w (NewSts w s t) := by
  obtain ⟨SA, sn, sc, B, m, d, rfl, ha, hb⟩ := h0
  have HA := Lib.hid ha
  have HB := Lib.hid hb
  have HT := Lib.hid h1
  have HTP := Lib.hid ht
  have HS := Lib.hid hs
  clear ha hb h1 ht hs
  go_enter Try.func30, Try.ntmps30
  go_wp2_with fail
  (with_reducible refine (c_l7Right (RdSyK.mk (RI.ext HA.out (by exact extX)) (RR.ext HB.out (by exact extX))) HS.out (RdI.mk (RI.ext HT.out (by exact extX))) HTP.out).mono ?_)
  rintro e w2 ⟨rfl, hE2⟩
  have hb0 : w2.cell? ⟨w.heap.size, 0, none⟩ = some (.slice SA sn sc) := Ext.keep hE2 (by simp [go_sem])
  have hb1 : w2.cell? ⟨w.heap.size, 1, none⟩ = some (.slice B m d) := Ext.keep hE2 (by simp [go_sem])
  have hE02 : Ext w w2 := by exact extX
  go_wp2_with fail
  (with_reducible refine (c_l7Steps (RdSyK.mk (RI.ext HA.out hE02) (RR.ext HB.out hE02)) HS.out (RI.ext HT.out hE02) hc HTP.out).mono ?_)
  rintro e w3 ⟨A3, n3, c3, sts, rfl, hR, hn, hall, hE3⟩
  have HR := Lib.hid hR
  have HAL := Lib.hid hall
  clear hR hall
  go_wp2_with fail
  go_ret
  exact ⟨A3, n3, c3, sts, rfl, HR.out.lower hE02.size, hn, HAL.out, Ext.trans hE02 hE3⟩

end Go.Proofs.Ytljbjabgdalabaa
