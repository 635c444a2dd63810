/- The first projection: plain, and the heads of pairs: the program's. -/
import Derived.Test.YtccahngnnfohcaaPrjC
import Derived.Test.YtccahngnnfohcaaMUp
import Derived.Test.YtccahngnnfohcaaWin
-- rd: RdSyK RdDp RdDq
namespace Go.Proofs.Ytccahngnnfohcaa
open Go.RowKit
set_option linter.unusedSimpArgs false
set_option linter.unusedVariables false

/-- A head of a pair of a set. -/
def HdIn (ps : List DepP) (set : List Int) (f : Int) : Prop := ∃ n ∈ set, ∃ q, ps[n.toNat]? = some q ∧ (q.l[0]? = some f ∨ q.r[0]? = some f)
noncomputable def hdB (ps : List DepP) (set : List Int) (f : Int) : Bool := @decide (HdIn ps set f) (Classical.propDecidable _)
theorem hdB_iff {ps : List DepP} {set : List Int} {f : Int} : hdB ps set f = true ↔ HdIn ps set f := by simp only [hdB, decide_eq_true_eq]
theorem hdB_f {ps : List DepP} {set : List Int} {f : Int} : hdB ps set f = false ↔ ¬ HdIn ps set f := by simp only [hdB, decide_eq_false_iff_not]
theorem HdIn.nil {ps : List DepP} {f : Int} : ¬ HdIn ps [] f := by rintro ⟨n, h, _⟩; cases h
theorem HdIn.succ {ps : List DepP} {set : List Int} {k z : Nat} {q : DepP} {a b f : Int} (hs : set[k]? = some (z : Int)) (hq : ps[z]? = some q) (hl : q.l[0]? = some a) (hr : q.r[0]? = some b) :
    HdIn ps (set.take (k + 1)) f ↔ HdIn ps (set.take k) f ∨ f = a ∨ f = b := by
  rw [List.take_add_one, hs]
  constructor
  · rintro ⟨n, h, p, hp, h2⟩
    rcases List.mem_append.1 h with h | h
    · exact .inl ⟨n, h, p, hp, h2⟩
    · simp at h; subst h
      rw [Int.toNat_natCast, hq] at hp; cases hp
      rw [hl, hr] at h2
      rcases h2 with h2 | h2
      · cases h2; exact .inr (.inl rfl)
      · cases h2; exact .inr (.inr rfl)
  · rintro (⟨n, h, p, hp, h2⟩ | h | h)
    · exact ⟨n, List.mem_append_left _ h, p, hp, h2⟩
    · exact ⟨z, List.mem_append_right _ (by simp), q, by rw [Int.toNat_natCast]; exact hq, .inl (by rw [h]; exact hl)⟩
    · exact ⟨z, List.mem_append_right _ (by simp), q, by rw [Int.toNat_natCast]; exact hq, .inr (by rw [h]; exact hr)⟩
/-- Head or not, for each symbol. -/
noncomputable def hdL (ps : List DepP) (set : List Int) (m : Nat) : List Bool := (List.range m).map fun (f : Nat) => hdB ps set (f : Int)
theorem hdL_get {ps : List DepP} {set : List Int} {m k : Nat} (h : k < m) : (hdL ps set m)[k]? = some (hdB ps set (k : Int)) := by
  unfold hdL; rw [List.getElem?_map, List.getElem?_range h]; rfl
theorem hdL_nil (ps : List DepP) (m : Nat) : hdL ps [] m = List.replicate m false := by
  refine List.ext_getElem? fun k => ?_
  rcases Nat.lt_or_ge k m with h | h
  · rw [hdL_get h, List.getElem?_replicate, if_pos h, hdB_f.2 HdIn.nil]
  · rw [List.getElem?_eq_none (by simp [hdL]; exact h), List.getElem?_eq_none (by simpa using h)]
theorem hdL_succ {ps : List DepP} {set : List Int} {m k z a b : Nat} {q : DepP} (hs : set[k]? = some (z : Int)) (hq : ps[z]? = some q) (hl : q.l[0]? = some (a : Int)) (hr : q.r[0]? = some (b : Int)) :
    ((hdL ps (set.take k) m).set a true).set b true = hdL ps (set.take (k + 1)) m := by
  refine List.ext_getElem? fun f => ?_
  rw [List.getElem?_set, List.getElem?_set]
  have hlen : (hdL ps (set.take k) m).length = m := by simp [hdL]
  rcases Nat.lt_or_ge f m with h | h
  · have e := HdIn.succ (f := (f : Int)) hs hq hl hr
    rw [hdL_get h, hdL_get h]
    simp only [List.length_set, hlen]
    by_cases h1 : b = f
    · subst h1
      rw [if_pos rfl, if_pos h, hdB_iff.2 (e.2 (.inr (.inr rfl)))]
    · rw [if_neg h1]
      by_cases h2 : a = f
      · subst h2
        rw [if_pos rfl, if_pos h, hdB_iff.2 (e.2 (.inr (.inl rfl)))]
      · rw [if_neg h2]
        cases hb : hdB ps (set.take k) (f : Int) with
        | true => rw [hdB_iff.2 (e.2 (.inl (hdB_iff.1 hb)))]
        | false =>
          rw [hdB_f.2 fun h3 => ?_]
          rcases e.1 h3 with h3 | h3 | h3
          · exact hdB_f.1 hb h3
          · omega
          · omega
  · rw [List.getElem?_eq_none (by rw [hlen]; exact h), List.getElem?_eq_none (l := hdL ps (set.take (k + 1)) m) (by simp [hdL]; exact h)]
    simp only [List.length_set, hlen]
    split
    · rw [if_neg (by omega)]
    · split
      · rw [if_neg (by omega)]
      · rfl
/-- The least and the greatest choice, for the first symbols; the others are not looked at yet. -/
noncomputable def lowK (ps : List DepP) (set : List Int) (m k : Nat) : List Int := (List.range m).map fun (f : Nat) => if f < k ∧ hdB ps set (f : Int) = true then 0 else -1
noncomputable def highK (ar : List Int) (ps : List DepP) (set : List Int) (m k : Nat) : List Int := (List.range m).map fun (f : Nat) => if f < k ∧ hdB ps set (f : Int) = true then ar.getD f 0 - 1 else -1
theorem mapR_get {α : Type} {g : Nat → α} {m f : Nat} (h : f < m) : ((List.range m).map g)[f]? = some (g f) := by rw [List.getElem?_map, List.getElem?_range h]; rfl
theorem mapR_set {α : Type} {g g' : Nat → α} {m k : Nat} {y : α} (hk : k < m) (hy : g' k = y) (h : ∀ f, f < m → f ≠ k → g f = g' f) : ((List.range m).map g).set k y = (List.range m).map g' := by
  refine List.ext_getElem? fun f => ?_
  rw [List.getElem?_set]
  simp only [List.length_map, List.length_range]
  rcases Nat.lt_or_ge f m with h1 | h1
  · rw [mapR_get h1, mapR_get h1]
    by_cases h2 : k = f
    · subst h2; rw [if_pos rfl, if_pos h1, hy]
    · rw [if_neg h2, h f h1 (fun e => h2 e.symm)]
  · rw [List.getElem?_eq_none (by simpa using h1), List.getElem?_eq_none (by simpa using h1)]
    split
    · omega
    · rfl
theorem mapR_same {α : Type} {g g' : Nat → α} {m : Nat} (h : ∀ f, f < m → g f = g' f) : (List.range m).map g = (List.range m).map g' := by
  refine List.ext_getElem? fun f => ?_
  rcases Nat.lt_or_ge f m with h1 | h1
  · rw [mapR_get h1, mapR_get h1, h f h1]
  · rw [List.getElem?_eq_none (by simpa using h1), List.getElem?_eq_none (by simpa using h1)]
theorem mapR_rep {α : Type} {g : Nat → α} {m : Nat} {y : α} (h : ∀ f, f < m → g f = y) : List.replicate m y = (List.range m).map g := by
  refine List.ext_getElem? fun f => ?_
  rcases Nat.lt_or_ge f m with h1 | h1
  · rw [mapR_get h1, h f h1, List.getElem?_replicate, if_pos h1]
  · rw [List.getElem?_eq_none (by simpa using h1), List.getElem?_eq_none (by simpa using h1)]
section
variable {ar : List Int} {ps : List DepP} {set : List Int} {m k : Nat}
theorem lowK_len : (lowK ps set m k).length = m := by simp [lowK]
theorem highK_len : (highK ar ps set m k).length = m := by simp [highK]
theorem lowK_zero : List.replicate m (-1) = lowK ps set m 0 := mapR_rep fun f _ => by rw [if_neg (by omega)]
theorem highK_zero : List.replicate m (-1) = highK ar ps set m 0 := mapR_rep fun f _ => by rw [if_neg (by omega)]
theorem lowK_yes (hk : k < m) (h : hdB ps set (k : Int) = true) : (lowK ps set m k).set k 0 = lowK ps set m (k + 1) :=
  mapR_set hk (by rw [if_pos ⟨by omega, h⟩]) fun f _ hne => by
    by_cases h1 : f < k ∧ hdB ps set (f : Int) = true
    · rw [if_pos h1, if_pos ⟨by omega, h1.2⟩]
    · rw [if_neg h1, if_neg (fun h2 => h1 ⟨by omega, h2.2⟩)]
theorem lowK_no (h : hdB ps set (k : Int) = false) : lowK ps set m k = lowK ps set m (k + 1) :=
  mapR_same fun f _ => by
    by_cases h1 : f < k ∧ hdB ps set (f : Int) = true
    · rw [if_pos h1, if_pos ⟨by omega, h1.2⟩]
    · have h4 : ¬ (f < k + 1 ∧ hdB ps set (f : Int) = true) := fun h2 => by
        rcases Nat.lt_or_ge f k with h3 | h3
        · exact h1 ⟨h3, h2.2⟩
        · obtain rfl : f = k := by omega
          have h5 := h2.2
          rw [h] at h5; cases h5
      rw [if_neg h1, if_neg h4]
theorem highK_yes {x : Int} (hk : k < m) (hx : ar[k]? = some x) (h : hdB ps set (k : Int) = true) : (highK ar ps set m k).set k (x - 1) = highK ar ps set m (k + 1) :=
  mapR_set hk (by rw [if_pos ⟨by omega, h⟩, List.getD_eq_getElem?_getD, hx]; rfl) fun f _ hne => by
    by_cases h1 : f < k ∧ hdB ps set (f : Int) = true
    · rw [if_pos h1, if_pos ⟨by omega, h1.2⟩]
    · rw [if_neg h1, if_neg (fun h2 => h1 ⟨by omega, h2.2⟩)]
theorem highK_no (h : hdB ps set (k : Int) = false) : highK ar ps set m k = highK ar ps set m (k + 1) :=
  mapR_same fun f _ => by
    by_cases h1 : f < k ∧ hdB ps set (f : Int) = true
    · rw [if_pos h1, if_pos ⟨by omega, h1.2⟩]
    · have h4 : ¬ (f < k + 1 ∧ hdB ps set (f : Int) = true) := fun h2 => by
        rcases Nat.lt_or_ge f k with h3 | h3
        · exact h1 ⟨h3, h2.2⟩
        · obtain rfl : f = k := by omega
          have h5 := h2.2
          rw [h] at h5; cases h5
      rw [if_neg h1, if_neg h4]
theorem lowK_at {f : Nat} (hf : f < m) : (lowK ps set m k)[f]? = some (if f < k ∧ hdB ps set (f : Int) = true then 0 else -1) := mapR_get hf
theorem highK_at {f : Nat} (hf : f < m) : (highK ar ps set m k)[f]? = some (if f < k ∧ hdB ps set (f : Int) = true then ar.getD f 0 - 1 else -1) := mapR_get hf
end
/-- A head without arguments: no projection at all. -/
def BadH (ar : List Int) (ps : List DepP) (set : List Int) : Prop := ∃ f, f < ar.length ∧ hdB ps set (f : Int) = true ∧ ar[f]? = some 0
/-- Something goes by it. -/
def GoesBy (ar : List Int) (ps : List DepP) (set pj : List Int) : Prop := ∃ x xs, prjGo ar pj ps set [] = some (x :: xs)
noncomputable def lowP (ar : List Int) (ps : List DepP) (set : List Int) : List Int := lowK ps set ar.length ar.length
noncomputable def highP (ar : List Int) (ps : List DepP) (set : List Int) : List Int := highK ar ps set ar.length ar.length
noncomputable def fpGo (ar : List Int) (ps : List DepP) (set : List Int) : Option (List Int) :=
  @ite _ (BadH ar ps set) (Classical.propDecidable _) none (srch (GoesBy ar ps set) (lowP ar ps set) (highP ar ps set) (cnt (lowP ar ps set) (highP ar ps set) - rkU (lowP ar ps set) (lowP ar ps set) (highP ar ps set)) (lowP ar ps set))
noncomputable def fpV (s : Sy) (set : List Int) : Option (List Int) := if prB s = true ∧ setB (prV s).length set = true then fpGo s.ar (prV s) set else none
theorem fpV_no1 {s : Sy} {set : List Int} (h : prB s = false) : fpV s set = none := by unfold fpV; rw [if_neg (by rw [h]; simp)]
theorem fpV_no2 {s : Sy} {set : List Int} (h : setB (prV s).length set = false) : fpV s set = none := by unfold fpV; rw [if_neg (by rw [h]; simp)]
theorem fpV_yes {s : Sy} {set : List Int} (h1 : prB s = true) (h2 : setB (prV s).length set = true) : fpV s set = fpGo s.ar (prV s) set := by unfold fpV; rw [if_pos ⟨h1, h2⟩]
theorem fpGo_bad {ar : List Int} {ps : List DepP} {set : List Int} {f : Nat} {x : Int} (hf : f < ar.length) (h : hdB ps set (f : Int) = true) (hx : ar[f]? = some x) (h0 : x = 0) : fpGo ar ps set = none := by
  unfold fpGo; rw [if_pos ⟨f, hf, h, by rw [hx, h0]⟩]
theorem low_btw {ar : List Int} {ps : List DepP} {set : List Int} (hs : SigP ar) (hb : ¬ BadH ar ps set) : Btw (lowP ar ps set) (lowP ar ps set) (highP ar ps set) := by
  refine Btw.of rfl (by simp [highP, lowP, highK_len, lowK_len]) fun k x l h hx hl hh => ?_
  have hk : k < ar.length := by have := (List.getElem?_eq_some_iff.1 hx).1; simpa [lowP, lowK_len] using this
  rw [hx] at hl; cases hl
  rw [lowP, lowK_at hk] at hx
  rw [highP, highK_at hk] at hh
  have hak : ar[k]? = some ar[k] := List.getElem?_eq_getElem hk
  have h0 := hs.2.2 ar[k] (List.getElem_mem hk)
  rw [List.getD_eq_getElem?_getD, hak] at hh
  by_cases h1 : k < ar.length ∧ hdB ps set (k : Int) = true
  · rw [if_pos h1] at hx hh
    simp at hx hh
    have : ar[k] ≠ 0 := fun e => hb ⟨k, hk, h1.2, by rw [hak, e]⟩
    omega
  · rw [if_neg h1] at hx hh
    simp at hx hh
    omega
theorem fp_start {ar : List Int} {ps : List DepP} {set : List Int} {o : Option (List Int)} (hs : SigP ar) (hb : ¬ BadH ar ps set) (h : fpGo ar ps set = o) : ∃ k, OnWay (GoesBy ar ps set) (lowP ar ps set) (highP ar ps set) o k (lowP ar ps set) := by
  unfold fpGo at h; rw [if_neg hb] at h
  exact ⟨_, OnWay.start (low_btw hs hb) h⟩
theorem btw_proj {ar pj : List Int} {ps : List DepP} {set : List Int} (hs : SigP ar) (h : Btw pj (lowP ar ps set) (highP ar ps set)) : ProjP ar pj := by
  refine ⟨hs, by rw [h.len.1]; simp [lowP, lowK_len], fun j x n hx hn => ?_⟩
  obtain ⟨l, hh, h1, h2, h3, h4⟩ := h.at_ hx
  have hj : j < ar.length := (List.getElem?_eq_some_iff.1 hn).1
  rw [lowP, lowK_at hj] at h1
  rw [highP, highK_at hj] at h2
  have h0 := hs.2.2 n (List.mem_of_getElem? hn)
  rw [List.getD_eq_getElem?_getD, hn] at h2
  by_cases h5 : j < ar.length ∧ hdB ps set (j : Int) = true
  · rw [if_pos h5] at h1 h2
    simp at h1 h2; omega
  · rw [if_neg h5] at h1 h2
    simp at h1 h2; omega
/-- The head of a term of a pair. -/
theorem head_at {ar t : List Int} (ht : TermP ar t) (h0 : ∀ x, t[0]? = some x → 0 ≤ x) : ∃ f : Nat, t[0]? = some (f : Int) ∧ f < ar.length := by
  obtain ⟨hok, hfl⟩ := tmOf_ok ht
  cases htm : tmOf ar t with
  | node f us =>
    rw [htm] at hok hfl
    rw [flat_node] at hfl
    have ht0 : t[0]? = some f := by rw [← hfl]; rfl
    obtain ⟨k, rfl⟩ := Int.eq_ofNat_of_zero_le (h0 f ht0)
    have hlt : (k : Int) < ar.length := arI_lt (Ok_node.1 hok).1
    exact ⟨k, ht0, by omega⟩
theorem madeBoolsF (n : Nat) : (madeCells #[Value.bool false] n).toList = (List.replicate n false).map Value.bool := by
  apply List.ext_getElem?
  intro j
  simp only [madeCells, Array.toList_map, Array.toList_range, List.getElem?_map, List.getElem?_replicate]
  rcases Nat.lt_or_ge j n with h | h
  · simp [h, Nat.mod_one]
  · simp [Nat.not_lt.2 h]
theorem bool_infoF : (Try.prog.info? 4).map (fun i => (i.zero, i.size, i.bytes)) = some (some (.bool false), 1, 1) := by kernel_rfl
set_option maxRecDepth 100000 in
set_option maxHeartbeats 4000000 in
theorem c_heads {v0 v2 : Value} {A : Option Addr} {n c m : Nat} {ar set : List Int} {ps : List DepP} {w : World} (hm : ar.length = m) (hs : SigP ar) (h0 : RdSig w v0 ar) (h1 : RE w A n ps) (h2 : RdI w v2 set) (hpp : ∀ q ∈ ps, PairP ar q) (hset : SetP n set) :
    Calls Try.prog 97 #[v0, .slice A n c, v2] w fun e w' => e = .returned (.slice (some ⟨w.heap.size + 1, 0, none⟩) m m) ∧ OwB (w.heap.size + 1) m w' (hdL ps set m) ∧ Ext w w' := by
  obtain ⟨S, sn, sc, rfl, hsr⟩ := h0
  obtain ⟨D, d, dc, rfl, hd⟩ := h2
  obtain rfl : sn = m := by rw [← hsr.len, hm]
  have hm8 : sn ≤ 8 := by rw [← hm]; exact hs.2.1
  have HS := Lib.hid hsr
  have HA := Lib.hid h1
  have HD := Lib.hid hd
  have HPP := Lib.hid hpp
  have HST := Lib.hid hset
  have HM := Lib.hid hm
  have hdl := hd.len
  have hdle := hd.le
  clear hsr h1 hd hpp hset hs
  obtain ⟨ib, hbi, hbz, hbs, hbb⟩ := info_parts bool_infoF
  go_enter Try.func97, Try.ntmps97
  go_wp2_with (at_make; refine wpList_make_full _ rfl _ _ 110 rfl (w.heap.size + 1) 4 ib _ 1 Try.underlying110 hbi hbz hbs _ _ _ _ sn rfl rfl rfl rfl (by rw [hbb]; omega) (by simp only [maxLen]; omega) (by go_size) ?_)
  intro w3 hown0 hg3
  rw [madeBoolsF] at hown0
  have hE3 : Ext w w3 := Ext.grown ((Ext.refl w).alloc (.cells #[.slice S sn sc] 31)) hg3 (fun k hk => by cases hk)
  have HB0 := Lib.hid (show OwB (w.heap.size + 1) sn w3 (hdL ps (set.take 0) sn) by rw [List.take_zero, hdL_nil]; exact hown0)
  have hu := HB0.out.lt
  clear hown0 hg3
  go_wp2_with fail
  go_loopw [16] (fun kv wr => ∃ k : Nat, kv = .int .i64 k ∧ k ≤ d ∧ Hid (OwB (w.heap.size + 1) sn wr (hdL ps (set.take k) sn)) ∧ Ext w wr) (fun kv _ => d - (intOf kv).toNat)
  case atStart => exact ⟨0, rfl, Nat.zero_le _, HB0, hE3⟩
  case round =>
    obtain ⟨k, rfl, hk, hB, hE⟩ := hrel
    by_cases hlt : k < d
    · obtain ⟨b', o', x, rfl, hx, hcx⟩ := RI.at_ HD.out hlt
      have hxs := (HST.out k x hx).1
      obtain ⟨z, rfl⟩ := Int.eq_ofNat_of_zero_le hxs.1
      have hzn : z < n := by have := HA.out.1.1; omega
      obtain ⟨q, b, o2, A1, n1, c1, A2, n2, c2, hq, rfl, hc0, hc1, _, _, hcap1, hcap2, hr1, hr2⟩ := RE.at_ HA.out hzn
      obtain ⟨⟨hq1, hq2⟩, hq3, hq4⟩ := HPP.out q (List.mem_of_getElem? hq)
      obtain ⟨f1, hf1, hf1m⟩ := head_at hq1 hq2
      obtain ⟨f2, hf2, hf2m⟩ := head_at hq3 hq4
      have hn1 : 0 < n1 := by rw [← hr1.len]; exact hq1.2.1.1
      have hn2 : 0 < n2 := by rw [← hr2.len]; exact hq3.2.1.1
      obtain ⟨b1, o1, y1, rfl, hy1, hd1⟩ := RI.at_ hr1 hn1
      rw [hf1] at hy1; cases hy1
      obtain ⟨b2, o3, y2, rfl, hy2, hd2⟩ := RI.at_ hr2 hn2
      rw [hf2] at hy2; cases hy2
      have hbl := World.block_lt_of_cell? w _ hc0
      have hbl' := World.block_lt_of_cell? w _ hcx
      have hbl1 := World.block_lt_of_cell? w _ hd1
      have hbl2 := World.block_lt_of_cell? w _ hd2
      have hcx' := Ext.keep hE hcx
      have hc0' := Ext.keep hE hc0
      have hc1' := Ext.keep hE hc1
      have hd1' : wr.cell? ⟨b1, o1, none⟩ = some (.int .i64 (f1 : Int)) := by have := Ext.keep hE hd1; simpa using this
      have hd2' : wr.cell? ⟨b2, o3, none⟩ = some (.int .i64 (f2 : Int)) := by have := Ext.keep hE hd2; simpa using this
      have HN := Lib.hid (hdL_succ (m := sn) hx hq hf1 hf2)
      rw [HM.out] at hf1m hf2m
      obtain ⟨u1, hu1, hcu1, hfu1⟩ := hB.out.at_ hf1m
      obtain ⟨u2, hu2, hcu2, hfu2⟩ := hB.out.at_ hf2m
      have HS2 := Lib.hid (OwB.set (OwB.set hB.out f1 true) f2 true)
      rw [HN.out] at HS2
      have hE9 : Ext w ((wr.setCell ⟨w.heap.size + 1, f1, none⟩ (.bool true)).setCell ⟨w.heap.size + 1, f2, none⟩ (.bool true)) := Ext.set (Ext.set hE (Nat.le_succ _) _) (Nat.le_succ _) _
      have hki : (k : Int) < (d : Int) := by omega
      have hk0 : (0 : Int) ≤ (k : Int) := by omega
      have hzi : (z : Int) < (n : Int) := by omega
      have hz0 : (0 : Int) ≤ (z : Int) := by omega
      have hf1i : (f1 : Int) < (sn : Int) := by omega
      have hf10 : (0 : Int) ≤ (f1 : Int) := by omega
      have hf2i : (f2 : Int) < (sn : Int) := by omega
      have hf20 : (0 : Int) ≤ (f2 : Int) := by omega
      have hn1i : (0 : Int) < (n1 : Int) := by omega
      have hn2i : (0 : Int) < (n2 : Int) := by omega
      have hul : w.heap.size + 1 < wr.heap.size := hB.out.lt
      clear hx hxs hq hq1 hq2 hq3 hq4 hf1 hf2 hc0 hc1 hcx hd1 hd2 hcap1 hcap2 hr1 hr2 hu1 hu2
      have hbw : b ≠ w.heap.size + 1 := by have : b < w.heap.size := hbl; omega
      have hbw1 : b1 ≠ w.heap.size + 1 := by have : b1 < w.heap.size := hbl1; omega
      have hbw2 : b2 ≠ w.heap.size + 1 := by have : b2 < w.heap.size := hbl2; omega
      by_cases hff : f1 = f2
      · subst hff
        go_wp2_with fail
        go_roundw
        case rel => exact ⟨k + 1, by go_num, by omega, HS2, hE9⟩
        case measure => simp only [intOf]; omega
      · have hff' : ¬ f2 = f1 := fun e => hff e.symm
        go_wp2_with fail
        go_roundw
        case rel => exact ⟨k + 1, by go_num, by omega, HS2, hE9⟩
        case measure => simp only [intOf]; omega
    · obtain rfl : k = d := by omega
      have HT := Lib.hid (show set.take k = set from List.take_of_length_le (by omega))
      go_wp2_with fail
      go_ret
      exact ⟨rfl, by rw [← HT.out]; exact hB.out, hE⟩

end Go.Proofs.Ytccahngnnfohcaa
