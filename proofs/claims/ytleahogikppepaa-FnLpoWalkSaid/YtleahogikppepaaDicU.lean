/- Dice: a box with a growing row of lists; lists of terms by dice. -/
import Derived.Test.YtleahogikppepaaFil
import Derived.Test.YtleahogikppepaaDicT
namespace Go.Proofs.Ytleahogikppepaa
open Go.RowKit
set_option linter.unusedSimpArgs false
set_option linter.unusedVariables false

theorem ownsRow_heap {w w' : World} {B : Nat} {T : TypeId} {sz n : Nat} {v : Value} {vs : List Value} (h : w.ownsRow B T sz v n vs) (hk : ∀ b, v.ownBlock = some b → w'.heap[b]? = w.heap[b]?) : w'.ownsRow B T sz v n vs := by
  refine ⟨h.1, ?_⟩
  rcases h.2 with h2 | ⟨g, cap, cur, hv, hg, hh, r⟩
  · exact .inl h2
  · exact .inr ⟨g, cap, cur, hv, hg, by rw [hk g (by rw [hv]; rfl)]; exact hh, r⟩
theorem ownsRow_at {w : World} {B : Nat} {T : TypeId} {sz n b : Nat} {v : Value} {vs : List Value} (h : w.ownsRow B T sz v n vs) (hb : v.ownBlock = some b) : B ≤ b ∧ b < w.heap.size ∧ ∃ cur, w.heap[b]? = some (.cells cur T (0, 0)) := by
  rcases h.2 with ⟨h2, _⟩ | ⟨g, cap, cur, hv, hg, hh, r⟩
  · rw [h2] at hb; cases hb
  · rw [hv] at hb; cases hb
    exact ⟨hg, (Array.getElem?_eq_some_iff.1 hh).1, cur, hh⟩
theorem ownsRow_cap {w : World} {B : Nat} {T : TypeId} {sz n c : Nat} {A : Option Addr} {vs : List Value} (h : w.ownsRow B T sz (.slice A n c) n vs) : n ≤ c ∧ c ≤ 9223372036854775807 := by
  rcases h.2 with ⟨h2, h3⟩ | ⟨g, cap, cur, hv, hg, hh, h1, h2, _⟩
  · cases h2; omega
  · cases hv; exact ⟨h1, by unfold maxLen at h2; omega⟩
theorem OwI.ty {w : World} {B n c b : Nat} {A : Option Addr} {xs : List Int} (h : OwI w B A n c xs) {o : Nat} {s : Option (Nat × Nat)} (e : A = some ⟨b, 0, none⟩) : ∃ cur, w.heap[b]? = some (.cells cur 2 (0, 0)) := by
  rcases h.2.2 with ⟨hv, _⟩ | ⟨g, cap, cur, hv, hg, hh, r⟩
  · cases hv; cases e
  · cases hv; cases e; exact ⟨cur, hh⟩
theorem OwI.blk {w : World} {B n c : Nat} {A : Option Addr} {xs : List Int} (h : OwI w B A n c xs) : A = none ∨ ∃ b cur, A = some ⟨b, 0, none⟩ ∧ B ≤ b ∧ w.heap[b]? = some (.cells cur 2 (0, 0)) := by
  rcases h.2.2 with ⟨hv, _⟩ | ⟨g, cap, cur, hv, hg, hh, r⟩
  · cases hv; exact .inl rfl
  · cases hv; exact .inr ⟨g, cur, rfl, hg, hh⟩
/-- A box that holds a row of lists, each of the call's own; beside it a list and the box of the result. -/
structure RowBox (T TB : TypeId) (sz : Nat) (bcs : Value → Array Value) (rcs : Array Value) (w0 w : World) (g p r : Nat) (S : Option Addr) (ns cs0 : Nat) (ss : List Int) (A : Option Addr) (n c : Nat) (xss : List (List Int)) : Prop where
  bx : w.heap[p]? = some (.cells (bcs (.slice A n c)) TB (0, 0))
  row : ∃ cs, w.ownsRow w0.heap.size T sz (.slice A n c) n cs ∧ cs.length = xss.length ∧ ∀ (j : Nat) (xs : List Int), xss[j]? = some xs → ∃ A' m' c', cs[j]? = some (.slice A' m' c') ∧ OwI w w0.heap.size A' m' c' xs
  sg : OwI w w0.heap.size S ns cs0 ss
  di : Dice w g
  on : Only w0 w g
  ge : w0.heap.size ≤ p
  gl : g < w0.heap.size
  rb : w.heap[r]? = some (.cells rcs TB (0, 0))
  rp : r ≠ p
  rge : w0.heap.size ≤ r
section
variable {T TB : TypeId} {sz : Nat} {bcs : Value → Array Value} {rcs : Array Value} {w0 w w' : World} {g p r ns cs0 : Nat} {S : Option Addr} {ss : List Int} {A : Option Addr} {n c : Nat} {xss : List (List Int)}
theorem RowBox.step (h : RowBox T TB sz bcs rcs w0 w g p r S ns cs0 ss A n c xss) (hD : Dice w' g) (hO : Only w w' g) : RowBox T TB sz bcs rcs w0 w' g p r S ns cs0 ss A n c xss := by
  have hb : ∀ b, w0.heap.size ≤ b → b < w.heap.size → w'.heap[b]? = w.heap[b]? := fun b h1 h2 => hO.block b h2 (fun e => by cases e; have := h.gl; omega)
  obtain ⟨cs, h1, h2, h3⟩ := h.row
  have hpl := (Array.getElem?_eq_some_iff.1 h.bx).1
  have hrl := (Array.getElem?_eq_some_iff.1 h.rb).1
  refine ⟨(hb p h.ge hpl).trans h.bx, ⟨cs, ownsRow_heap h1 (fun b e => ?_), h2, fun j xs hx => ?_⟩, ?_, hD, h.on.trans hO, h.ge, h.gl, (hb r h.rge hrl).trans h.rb, h.rp, h.rge⟩
  · obtain ⟨k1, k2, _⟩ := ownsRow_at h1 e; exact hb b k1 k2
  · obtain ⟨A', m', c', e1, e2⟩ := h3 j xs hx
    exact ⟨A', m', c', e1, e2.heap fun b e => by have := e2.bd b 0 none e; exact hb b this.1 this.2⟩
  · exact h.sg.heap fun b e => by have := h.sg.bd b 0 none e; exact hb b this.1 this.2
theorem RowBox.ext (h : RowBox T TB sz bcs rcs w0 w g p r S ns cs0 ss A n c xss) (k : Ext w w') : RowBox T TB sz bcs rcs w0 w' g p r S ns cs0 ss A n c xss := h.step (h.di.ext k) (Only.of_ext k g)
theorem RowBox.lt (h : RowBox T TB sz bcs rcs w0 w g p r S ns cs0 ss A n c xss) : p < w.heap.size := (Array.getElem?_eq_some_iff.1 h.bx).1
/-- One element more: its slices are the call's own; the row has grown, and the box is told. -/
theorem RowBox.push {wx : World} {A2 : Option Addr} {c2 k q : Nat} {cs new : List Value} {yss : List (List Int)} {o : Obj} (h : RowBox T TB sz bcs rcs w0 w g p r S ns cs0 ss A n c xss)
    (hT1 : T ≠ 2) (hT2 : TB ≠ T) (hT3 : TB ≠ 2) (hset : ∀ v v', (bcs v).setIfInBounds q v' = bcs v')
    (hrow : w.ownsRow w0.heap.size T sz (.slice A n c) n cs) (hcl : cs.length = xss.length) (hel : ∀ (j : Nat) (xs : List Int), xss[j]? = some xs → ∃ A' m' c', cs[j]? = some (.slice A' m' c') ∧ OwI w w0.heap.size A' m' c' xs)
    (hnl : new.length = yss.length) (hnew : ∀ (j : Nat) (xs : List Int), yss[j]? = some xs → ∃ A' m' c', new[j]? = some (.slice A' m' c') ∧ OwI w w0.heap.size A' m' c' xs)
    (hown : wx.ownsRow w0.heap.size T sz (.slice A2 k c2) k (cs ++ new)) (hg : (w.alloc o).grownBy wx (Value.slice A n c).ownBlock) :
    RowBox T TB sz bcs rcs w0 (wx.setCell ⟨p, q, none⟩ (.slice A2 k c2)) g p r S ns cs0 ss A2 k c2 (xss ++ yss) := by
  have hpl := h.lt
  have hrl := (Array.getElem?_eq_some_iff.1 h.rb).1
  have hold : ∀ b, b < w.heap.size → (Value.slice A n c).ownBlock ≠ some b → wx.heap[b]? = w.heap[b]? := fun b h1 h2 =>
    (hg.block b (by simp; omega) (fun e => h2 e.symm)).trans (((Ext.refl w).alloc o).block b h1)
  have hrowt : ∀ b, (Value.slice A n c).ownBlock = some b → w0.heap.size ≤ b ∧ ∃ cur, w.heap[b]? = some (.cells cur T (0, 0)) := fun b e => by
    obtain ⟨k1, _, k2⟩ := ownsRow_at hrow e; exact ⟨k1, k2⟩
  have hpne : (Value.slice A n c).ownBlock ≠ some p := fun e => by
    obtain ⟨_, cur, k2⟩ := hrowt p e
    rw [h.bx] at k2; cases k2; exact hT2 rfl
  have hrne : (Value.slice A n c).ownBlock ≠ some r := fun e => by
    obtain ⟨_, cur, k2⟩ := hrowt r e
    rw [h.rb] at k2; cases k2; exact hT2 rfl
  have hpx : wx.heap[p]? = some (.cells (bcs (.slice A n c)) TB (0, 0)) := (hold p hpl hpne).trans h.bx
  have hrx : wx.heap[r]? = some (.cells rcs TB (0, 0)) := (hold r hrl hrne).trans h.rb
  have hkeep : ∀ {A' : Option Addr} {m' c' : Nat} {xs : List Int}, OwI w w0.heap.size A' m' c' xs → OwI (wx.setCell ⟨p, q, none⟩ (.slice A2 k c2)) w0.heap.size A' m' c' xs := fun {A' m' c' xs} hO => by
    refine hO.heap fun b e => ?_
    rcases hO.blk with e0 | ⟨b', cur, e0, _, hb⟩
    · rw [e0] at e; cases e
    · rw [e0] at e; cases e
      have hne : (Value.slice A n c).ownBlock ≠ some b := fun e2 => by
        obtain ⟨_, cur2, k2⟩ := hrowt b e2
        rw [hb] at k2; cases k2; exact hT1 rfl
      have hbp : b ≠ p := fun e2 => by subst e2; rw [h.bx] at hb; cases hb; exact hT3 rfl
      rw [Below.heap_setCell _ _ _ _ hbp]
      exact hold b (Array.getElem?_eq_some_iff.1 hb).1 hne
  refine ⟨?_, ⟨cs ++ new, ownsRow_heap hown (fun b e => ?_), by simp [hcl, hnl], fun j xs hx => ?_⟩, hkeep h.sg, ?_, ?_, h.ge, h.gl, ?_, h.rp, h.rge⟩
  · simp [World.setCell, Array.getElem?_modify, hpx, hset]
  · obtain ⟨_, _, cur, k2⟩ := ownsRow_at hown e
    refine Below.heap_setCell _ _ _ _ (fun e2 => ?_)
    have e2' : b = p := e2
    subst e2'
    rw [hpx] at k2; cases k2; exact hT2 rfl
  · rcases Nat.lt_or_ge j xss.length with hj | hj
    · rw [List.getElem?_append_left hj] at hx
      obtain ⟨A', m', c', e1, e2⟩ := hel j xs hx
      exact ⟨A', m', c', by rw [List.getElem?_append_left (by omega)]; exact e1, hkeep e2⟩
    · rw [List.getElem?_append_right hj] at hx
      obtain ⟨A', m', c', e1, e2⟩ := hnew _ xs hx
      exact ⟨A', m', c', by rw [List.getElem?_append_right (by omega), hcl]; exact e1, hkeep e2⟩
  · refine (Dice.grown (h.di.ext ((Ext.refl w).alloc o)) hg fun b e => ?_).below (Below.setCell (Below.refl _ _) (by show g + 1 ≤ p; have := h.ge; have := h.gl; omega) _)
    have := (hrowt b e).1; have := h.gl; omega
  · refine (Only.grown (h.on.trans (Only.of_ext ((Ext.refl w).alloc o) g)) hg fun b e => (hrowt b e).1).grown (Only.setCell _ _ _ _) (fun b e => by cases e; exact h.ge)
  · rw [Below.heap_setCell _ _ _ _ h.rp]; exact hrx
end
theorem sub3 {ar : List Int} {σ : List (List Int)} {x : List Int} (h : ∀ t ∈ σ, TermP ar t) (hx : TermP ar x) : ∀ t ∈ σ ++ [x], TermP ar t := fun t ht => by
  rcases List.mem_append.1 ht with ht | ht
  · exact h t ht
  · rw [List.mem_singleton.1 ht]; exact hx
theorem sigR3 : SigP [2, 1, (0 : Int)] := sigOk_iff.1 (by first | rfl | decide | simp [sigOk, SigP])
theorem tm3 {u : Tm} {d : Nat} {vars : Int} (hv : vars ≤ 24) (hd : d ≤ 3) (hu : u.Ok [2, 1, 0]) (hn : u.flat.length ≤ bdT d) (hx : ∀ x ∈ u.flat, -vars ≤ x) : TermP [2, 1, 0] u.flat :=
  termP_flat sigR3 hu (by have := bdT_le hd; omega) (fun x h => by have := hx x h; omega)
theorem ints_infoU : (Try.prog.info? 27).map (fun i => (i.zero, i.size, i.bytes)) = some (some (.slice none 0 0), 1, 24) := by kernel_rfl
def NewSu (w : World) (g : Nat) (e : Ending) (w' : World) : Prop := ∃ (A : Option Addr) (n c : Nat) (σ : List (List Int)), e = .returned (.agg #[.slice A n c]) ∧ RSg w' A n σ ∧ SubP [2, 1, 0] σ ∧ Dice w' g ∧ Only w w' g
set_option maxRecDepth 100000 in
set_option maxHeartbeats 8000000 in
theorem c_w9Subst {g : Nat} {w : World} (h0 : Dice w g) : Calls Try.prog 20 #[.pointer (some ⟨g, 0, none⟩)] w (NewSu w g) := by
  have HD := Lib.hid h0
  have hgl := h0.lt
  obtain ⟨i0, hii, hiz, his, hib⟩ := info_parts ints_infoU
  clear h0
  go_enter Try.func20, Try.ntmps20
  go_wp2_with fail
  have HB0 := Lib.hid (show RowBox 27 36 1 (fun v => #[v]) #[.slice none 0 0] w ((w.alloc (.cells #[.slice none 0 0] 36)).alloc (.cells #[.slice none 0 0] 36)) g (w.heap.size + 1) w.heap.size none 0 0 [] none 0 0 [] from
    ⟨by simpa using heap_alloc_new (w.alloc (.cells #[.slice none 0 0] 36)) _, ⟨[], World.ownsRow_nil _ _ _ _, rfl, fun j xs hx => by simp at hx⟩, ⟨by omega, World.ownsRow_nil _ _ _ _⟩, HD.out.ext (by exact extX), Only.of_ext (by exact extX) g, by omega, hgl,
      (((Ext.refl (w.alloc (.cells #[.slice none 0 0] 36))).alloc _).block w.heap.size (by simp)).trans (heap_alloc_new w _), by omega, Nat.le_refl _⟩)
  (with_reducible refine (c_below HB0.out.di (by omega) (by omega)).mono ?_)
  rintro e w1 ⟨x, rfl, hx, hD1, hO1⟩
  obtain ⟨x', rfl⟩ := Int.eq_ofNat_of_zero_le hx.1
  have HB1 := Lib.hid (HB0.out.step hD1 hO1)
  clear HB0
  go_wp2_with fail
  go_loopw [4] (fun kv wr => ∃ k : Nat, kv = .int .i64 k ∧ k ≤ 3 ∧ Hid (∃ A n c σ, RowBox 27 36 1 (fun v => #[v]) #[.slice none 0 0] w wr g (w.heap.size + 1) w.heap.size none 0 0 [] A n c σ ∧ n + k ≤ 3 ∧ σ.length = n ∧ ∀ t ∈ σ, TermP [2, 1, 0] t)) (fun kv _ => (intOf kv).toNat)
  case atStart => exact ⟨x', rfl, by omega, Lib.hid ⟨none, 0, 0, [], HB1.out, by omega, rfl, fun t ht => by cases ht⟩⟩
  case round =>
    obtain ⟨k, rfl, hk, hI⟩ := hrel
    obtain ⟨A, n, c, σ, hB, hn3, hσl, hσ⟩ := hI.out
    have HB := Lib.hid hB
    have HSL := Lib.hid hσl
    have HST := Lib.hid hσ
    have hpl := hB.lt
    have hbx0 : ∀ w' : World, RowBox 27 36 1 (fun v => #[v]) #[.slice none 0 0] w w' g (w.heap.size + 1) w.heap.size none 0 0 [] A n c σ → w'.cell? ⟨w.heap.size + 1, 0, none⟩ = some (.slice A n c) ∧ ∀ j, w'.frozen? ⟨w.heap.size + 1, j, none⟩ = false := fun w' h => ⟨cell_of_row _ _ _ _ _ (0, 0) h.bx, fun j => frozen_of_row _ _ _ _ _ h.bx⟩
    have HBX := Lib.hid hbx0
    clear hI hB hσl hσ hbx0
    by_cases hlt : 0 < k
    · have hki : (k : Int) > 0 := by omega
      go_wp2_with fail
      refine wp_only (R := fun (a0 : Act) (a8 : Act) (w9 : World) => ∃ (A5 : Option Addr) (n5 : Nat) (c5 : Nat) (u : Tm) (q : Nat) (g4 : Nat) (cap : Nat), a8 = (((((((a0.put (some 12) (.pointer (some ⟨w.heap.size + 1, 0, none⟩))).put (some 13) (.slice A n c)).put (some 14) (.pointer (some ⟨g, 0, none⟩))).put (some 18) (.pointer (some ⟨w.heap.size + 1, 0, none⟩))).put (some 15) (.slice A5 n5 c5)).put (some 16) (.slice (some ⟨q, 0, none⟩) 1 1)).put (some 17) (.slice (some ⟨g4, 0, none⟩) (n + 1) cap)) ∧ TermP [2, 1, 0] u.flat ∧ RowBox 27 36 1 (fun v => #[v]) #[.slice none 0 0] w w9 g (w.heap.size + 1) w.heap.size none 0 0 [] (some ⟨g4, 0, none⟩) (n + 1) cap (σ ++ [u.flat])) ?_ (fun a8 w5 hR => ?_)
      · refine wp_region_held_drew (S := (fun w' => True)) (by kernel_rfl) (trivial) (fun hH => ?_)
        refine wpAnyH_take_dst (i := 0) (v := .pointer (some ⟨w.heap.size + 1, 0, none⟩)) (d := some 12) rfl rfl (by kernel_rfl) (by kernel_rfl) (by kernel_rfl) (fun _ _ _ h => h) (Or.inl ⟨by rfl, ?_⟩) hH ?_
        · (intro w' hE'; (try dsimp only at hE'); skip; go_simp; try with_reducible rfl)
        try simp only [Act.put, List.setIfInBounds_toArray, List.set_cons_zero, List.set_cons_succ]
        refine wpAnyH_take_dst (i := 2) (v := .pointer (some ⟨g, 0, none⟩)) (d := some 14) rfl rfl (by kernel_rfl) (by kernel_rfl) (by kernel_rfl) (fun _ _ _ h => h) (Or.inl ⟨by rfl, ?_⟩) hH ?_
        · (intro w' hE'; (try dsimp only at hE'); skip; go_simp; try with_reducible rfl)
        try simp only [Act.put, List.setIfInBounds_toArray, List.set_cons_zero, List.set_cons_succ]
        refine wpAnyH_ready (rs := [1, 3]) (by kernel_rfl) (by simp) ?_
        refine AllReadyH.cons rfl (fun K hK => ?_) (AllReadyH.cons rfl (fun K hK => ?_) (AllReadyH.nil))
        · rw [if_pos (by rfl)]
          have y0 := (HBX.out _ (HB.out.ext (Ext.refl wr).drew)).1; go_wp2_with fail
          refine hK.out _ _ (trivial) (fun hH9 => ?_)
          clear hK; have hH0 := hH; clear hH; have hH := hH9; clear hH9
          try simp only [Act.put, List.setIfInBounds_toArray, List.set_cons_zero, List.set_cons_succ]
          refine wpAnyH_ready (rs := [3]) (by kernel_rfl) (by simp) ?_
          refine AllReadyH.cons rfl (fun K hK => ?_) AllReadyH.nil
          rw [if_pos (by rfl)]
          go_wp2_with fail
          (with_reducible refine (c_w9Term (by omega) (by omega) 1 (by omega) 2 (by omega) (HB.out.ext (Ext.refl wr).drew).di).mono ?_)
          rintro e w9 ⟨A5, n5, c5, u, rfl, hO5, hok5, hge5, hn5, hD9, hOn9⟩
          refine hK.out _ _ (trivial) (fun hH9 => ?_)
          clear hK; have hH0 := hH; clear hH; have hH := hH9; clear hH9
          try simp only [Act.put, List.setIfInBounds_toArray, List.set_cons_zero, List.set_cons_succ]
          refine wpAnyH_ready (rs := [4]) (by kernel_rfl) (by simp) ?_
          refine AllReadyH.cons rfl (fun K hK => ?_) AllReadyH.nil
          rw [if_pos (by rfl)]
          go_wp2_with fail
          refine hK.out _ _ (trivial) (fun hH9 => ?_)
          clear hK; have hH0 := hH; clear hH; have hH := hH9; clear hH9
          try simp only [Act.put, List.setIfInBounds_toArray, List.set_cons_zero, List.set_cons_succ]
          refine wpAnyH_ready (rs := [5]) (by kernel_rfl) (by simp) ?_
          refine AllReadyH.cons rfl (fun K hK => ?_) AllReadyH.nil
          rw [if_pos (by rfl)]
          have HB9 := (HB.out.ext (Ext.refl wr).drew).step hD9 hOn9; have hO5b := hO5.lower (B' := w.heap.size) (by have := HB.out.on.size; simpa using this); obtain ⟨cs, hrow, hcl, hel⟩ := HB9.row; have hrow2 := ownsRow_heap (w' := w9.alloc (.cells #[.slice A5 n5 c5] 27)) hrow (fun b e => ((Ext.refl w9).alloc _).block b (ownsRow_at hrow e).2.1); refine wp_append_lies _ (.tmp 13) (.tmp 16) 34 rfl w.heap.size 27 i0 (.slice none 0 0) 1 24 Try.underlying34 hii hiz his hib rfl (by decide) _ n _ rfl hrow2 ⟨w9.heap.size, 0, none⟩ 1 1 [.slice A5 n5 c5] rfl rfl (one_cells w9 _ _) (by intro u hu; simp at hu; subst hu; rfl) (by decide) (by unfold maxLen; omega) (by omega) (by have := HB9.on.size; simp; omega) _ rfl (fun g4 cap w92 hown hg92 hat92 hlt92 => ?_); have hB10 := RowBox.push (q := 0) HB9 (by decide) (by decide) (by decide) (fun v v' => rfl) hrow hcl hel (new := [.slice A5 n5 c5]) (yss := [u.flat]) rfl (fun j xs hx => by (cases j with | zero => (cases hx; exact ⟨A5, n5, c5, rfl, hO5b⟩) | succ j => simp at hx)) hown hg92; have hbx92 : w92.heap[w.heap.size + 1]? = some (.cells #[.slice A n c] 36 (0, 0)) := (hg92.block (w.heap.size + 1) (by have := HB9.lt; simp; omega) (fun e => by (have h1 := ownsRow_at hrow e.symm; obtain ⟨_, _, cur, h2⟩ := h1; rw [HB9.bx] at h2; cases h2))).trans ((((Ext.refl w9).alloc _).block (w.heap.size + 1) HB9.lt).trans HB9.bx)
          refine hK.out _ _ (trivial) (fun hH9 => ?_)
          clear hK; have hH0 := hH; clear hH; have hH := hH9; clear hH9
          try simp only [Act.put, List.setIfInBounds_toArray, List.set_cons_zero, List.set_cons_succ]
          refine wpAnyH_take_dst (i := 6) (v := .pointer (some ⟨w.heap.size + 1, 0, none⟩)) (d := some 18) rfl rfl (by kernel_rfl) (by kernel_rfl) (by kernel_rfl) (fun _ _ _ h => h) (Or.inl ⟨by rfl, ?_⟩) hH ?_
          · (intro w' hE'; (try dsimp only at hE'); skip; go_simp; try with_reducible rfl)
          try simp only [Act.put, List.setIfInBounds_toArray, List.set_cons_zero, List.set_cons_succ]
          refine wpAnyH_ready (rs := [7]) (by kernel_rfl) (by simp) ?_
          refine AllReadyH.cons rfl (fun K hK => ?_) AllReadyH.nil
          rw [if_pos (by rfl)]
          have z0 : w92.cell? ⟨w.heap.size + 1, 0, none⟩ = some (.slice A n c) := cell_of_row _ _ _ _ _ (0, 0) hbx92; have zf : ∀ j, w92.frozen? ⟨w.heap.size + 1, j, none⟩ = false := fun j => frozen_of_row _ _ _ _ _ hbx92; go_wp2_with fail
          refine hK.out _ _ (trivial) (fun hH9 => ?_)
          clear hK; have hH0 := hH; clear hH; have hH := hH9; clear hH9
          try simp only [Act.put, List.setIfInBounds_toArray, List.set_cons_zero, List.set_cons_succ]
          refine wpAnyH_done (by kernel_rfl) ?_ _
          exact ⟨A5, n5, c5, u, _, g4, cap, by rfl, tm3 (d := 1) (vars := 2) (by omega) (by omega) hok5 (by rw [hO5.len]; exact hn5) hge5, hB10⟩
        · rw [if_pos (by rfl)]
          go_wp2_with fail
          (with_reducible refine (c_w9Term (by omega) (by omega) 1 (by omega) 2 (by omega) (HB.out.ext (Ext.refl wr).drew).di).mono ?_)
          rintro e w9 ⟨A5, n5, c5, u, rfl, hO5, hok5, hge5, hn5, hD9, hOn9⟩
          refine hK.out _ _ (trivial) (fun hH9 => ?_)
          clear hK; have hH0 := hH; clear hH; have hH := hH9; clear hH9
          try simp only [Act.put, List.setIfInBounds_toArray, List.set_cons_zero, List.set_cons_succ]
          refine wpAnyH_ready (rs := [1, 4]) (by kernel_rfl) (by simp) ?_
          refine AllReadyH.cons rfl (fun K hK => ?_) (AllReadyH.cons rfl (fun K hK => ?_) (AllReadyH.nil))
          · rw [if_pos (by rfl)]
            have y0 := (HBX.out _ ((HB.out.ext (Ext.refl wr).drew).step hD9 hOn9)).1; go_wp2_with fail
            refine hK.out _ _ (trivial) (fun hH9 => ?_)
            clear hK; have hH0 := hH; clear hH; have hH := hH9; clear hH9
            try simp only [Act.put, List.setIfInBounds_toArray, List.set_cons_zero, List.set_cons_succ]
            refine wpAnyH_ready (rs := [4]) (by kernel_rfl) (by simp) ?_
            refine AllReadyH.cons rfl (fun K hK => ?_) AllReadyH.nil
            rw [if_pos (by rfl)]
            go_wp2_with fail
            refine hK.out _ _ (trivial) (fun hH9 => ?_)
            clear hK; have hH0 := hH; clear hH; have hH := hH9; clear hH9
            try simp only [Act.put, List.setIfInBounds_toArray, List.set_cons_zero, List.set_cons_succ]
            refine wpAnyH_ready (rs := [5]) (by kernel_rfl) (by simp) ?_
            refine AllReadyH.cons rfl (fun K hK => ?_) AllReadyH.nil
            rw [if_pos (by rfl)]
            have HB9 := (HB.out.ext (Ext.refl wr).drew).step hD9 hOn9; have hO5b := hO5.lower (B' := w.heap.size) (by have := HB.out.on.size; simpa using this); obtain ⟨cs, hrow, hcl, hel⟩ := HB9.row; have hrow2 := ownsRow_heap (w' := w9.alloc (.cells #[.slice A5 n5 c5] 27)) hrow (fun b e => ((Ext.refl w9).alloc _).block b (ownsRow_at hrow e).2.1); refine wp_append_lies _ (.tmp 13) (.tmp 16) 34 rfl w.heap.size 27 i0 (.slice none 0 0) 1 24 Try.underlying34 hii hiz his hib rfl (by decide) _ n _ rfl hrow2 ⟨w9.heap.size, 0, none⟩ 1 1 [.slice A5 n5 c5] rfl rfl (one_cells w9 _ _) (by intro u hu; simp at hu; subst hu; rfl) (by decide) (by unfold maxLen; omega) (by omega) (by have := HB9.on.size; simp; omega) _ rfl (fun g4 cap w92 hown hg92 hat92 hlt92 => ?_); have hB10 := RowBox.push (q := 0) HB9 (by decide) (by decide) (by decide) (fun v v' => rfl) hrow hcl hel (new := [.slice A5 n5 c5]) (yss := [u.flat]) rfl (fun j xs hx => by (cases j with | zero => (cases hx; exact ⟨A5, n5, c5, rfl, hO5b⟩) | succ j => simp at hx)) hown hg92; have hbx92 : w92.heap[w.heap.size + 1]? = some (.cells #[.slice A n c] 36 (0, 0)) := (hg92.block (w.heap.size + 1) (by have := HB9.lt; simp; omega) (fun e => by (have h1 := ownsRow_at hrow e.symm; obtain ⟨_, _, cur, h2⟩ := h1; rw [HB9.bx] at h2; cases h2))).trans ((((Ext.refl w9).alloc _).block (w.heap.size + 1) HB9.lt).trans HB9.bx)
            refine hK.out _ _ (trivial) (fun hH9 => ?_)
            clear hK; have hH0 := hH; clear hH; have hH := hH9; clear hH9
            try simp only [Act.put, List.setIfInBounds_toArray, List.set_cons_zero, List.set_cons_succ]
            refine wpAnyH_take_dst (i := 6) (v := .pointer (some ⟨w.heap.size + 1, 0, none⟩)) (d := some 18) rfl rfl (by kernel_rfl) (by kernel_rfl) (by kernel_rfl) (fun _ _ _ h => h) (Or.inl ⟨by rfl, ?_⟩) hH ?_
            · (intro w' hE'; (try dsimp only at hE'); skip; go_simp; try with_reducible rfl)
            try simp only [Act.put, List.setIfInBounds_toArray, List.set_cons_zero, List.set_cons_succ]
            refine wpAnyH_ready (rs := [7]) (by kernel_rfl) (by simp) ?_
            refine AllReadyH.cons rfl (fun K hK => ?_) AllReadyH.nil
            rw [if_pos (by rfl)]
            have z0 : w92.cell? ⟨w.heap.size + 1, 0, none⟩ = some (.slice A n c) := cell_of_row _ _ _ _ _ (0, 0) hbx92; have zf : ∀ j, w92.frozen? ⟨w.heap.size + 1, j, none⟩ = false := fun j => frozen_of_row _ _ _ _ _ hbx92; go_wp2_with fail
            refine hK.out _ _ (trivial) (fun hH9 => ?_)
            clear hK; have hH0 := hH; clear hH; have hH := hH9; clear hH9
            try simp only [Act.put, List.setIfInBounds_toArray, List.set_cons_zero, List.set_cons_succ]
            refine wpAnyH_done (by kernel_rfl) ?_ _
            exact ⟨A5, n5, c5, u, _, g4, cap, by rfl, tm3 (d := 1) (vars := 2) (by omega) (by omega) hok5 (by rw [hO5.len]; exact hn5) hge5, hB10⟩
          · rw [if_pos (by rfl)]
            go_wp2_with fail
            refine hK.out _ _ (trivial) (fun hH9 => ?_)
            clear hK; have hH0 := hH; clear hH; have hH := hH9; clear hH9
            try simp only [Act.put, List.setIfInBounds_toArray, List.set_cons_zero, List.set_cons_succ]
            refine wpAnyH_ready (rs := [1]) (by kernel_rfl) (by simp) ?_
            refine AllReadyH.cons rfl (fun K hK => ?_) AllReadyH.nil
            rw [if_pos (by rfl)]
            have y0 := (HBX.out _ (((HB.out.ext (Ext.refl wr).drew).step hD9 hOn9).ext ((Ext.refl w9).alloc (.cells #[.slice A5 n5 c5] 27)))).1; go_wp2_with fail
            refine hK.out _ _ (trivial) (fun hH9 => ?_)
            clear hK; have hH0 := hH; clear hH; have hH := hH9; clear hH9
            try simp only [Act.put, List.setIfInBounds_toArray, List.set_cons_zero, List.set_cons_succ]
            refine wpAnyH_ready (rs := [5]) (by kernel_rfl) (by simp) ?_
            refine AllReadyH.cons rfl (fun K hK => ?_) AllReadyH.nil
            rw [if_pos (by rfl)]
            have HB9 := (HB.out.ext (Ext.refl wr).drew).step hD9 hOn9; have hO5b := hO5.lower (B' := w.heap.size) (by have := HB.out.on.size; simpa using this); obtain ⟨cs, hrow, hcl, hel⟩ := HB9.row; have hrow2 := ownsRow_heap (w' := w9.alloc (.cells #[.slice A5 n5 c5] 27)) hrow (fun b e => ((Ext.refl w9).alloc _).block b (ownsRow_at hrow e).2.1); refine wp_append_lies _ (.tmp 13) (.tmp 16) 34 rfl w.heap.size 27 i0 (.slice none 0 0) 1 24 Try.underlying34 hii hiz his hib rfl (by decide) _ n _ rfl hrow2 ⟨w9.heap.size, 0, none⟩ 1 1 [.slice A5 n5 c5] rfl rfl (one_cells w9 _ _) (by intro u hu; simp at hu; subst hu; rfl) (by decide) (by unfold maxLen; omega) (by omega) (by have := HB9.on.size; simp; omega) _ rfl (fun g4 cap w92 hown hg92 hat92 hlt92 => ?_); have hB10 := RowBox.push (q := 0) HB9 (by decide) (by decide) (by decide) (fun v v' => rfl) hrow hcl hel (new := [.slice A5 n5 c5]) (yss := [u.flat]) rfl (fun j xs hx => by (cases j with | zero => (cases hx; exact ⟨A5, n5, c5, rfl, hO5b⟩) | succ j => simp at hx)) hown hg92; have hbx92 : w92.heap[w.heap.size + 1]? = some (.cells #[.slice A n c] 36 (0, 0)) := (hg92.block (w.heap.size + 1) (by have := HB9.lt; simp; omega) (fun e => by (have h1 := ownsRow_at hrow e.symm; obtain ⟨_, _, cur, h2⟩ := h1; rw [HB9.bx] at h2; cases h2))).trans ((((Ext.refl w9).alloc _).block (w.heap.size + 1) HB9.lt).trans HB9.bx)
            refine hK.out _ _ (trivial) (fun hH9 => ?_)
            clear hK; have hH0 := hH; clear hH; have hH := hH9; clear hH9
            try simp only [Act.put, List.setIfInBounds_toArray, List.set_cons_zero, List.set_cons_succ]
            refine wpAnyH_take_dst (i := 6) (v := .pointer (some ⟨w.heap.size + 1, 0, none⟩)) (d := some 18) rfl rfl (by kernel_rfl) (by kernel_rfl) (by kernel_rfl) (fun _ _ _ h => h) (Or.inl ⟨by rfl, ?_⟩) hH ?_
            · (intro w' hE'; (try dsimp only at hE'); skip; go_simp; try with_reducible rfl)
            try simp only [Act.put, List.setIfInBounds_toArray, List.set_cons_zero, List.set_cons_succ]
            refine wpAnyH_ready (rs := [7]) (by kernel_rfl) (by simp) ?_
            refine AllReadyH.cons rfl (fun K hK => ?_) AllReadyH.nil
            rw [if_pos (by rfl)]
            have z0 : w92.cell? ⟨w.heap.size + 1, 0, none⟩ = some (.slice A n c) := cell_of_row _ _ _ _ _ (0, 0) hbx92; have zf : ∀ j, w92.frozen? ⟨w.heap.size + 1, j, none⟩ = false := fun j => frozen_of_row _ _ _ _ _ hbx92; go_wp2_with fail
            refine hK.out _ _ (trivial) (fun hH9 => ?_)
            clear hK; have hH0 := hH; clear hH; have hH := hH9; clear hH9
            try simp only [Act.put, List.setIfInBounds_toArray, List.set_cons_zero, List.set_cons_succ]
            refine wpAnyH_done (by kernel_rfl) ?_ _
            exact ⟨A5, n5, c5, u, _, g4, cap, by rfl, tm3 (d := 1) (vars := 2) (by omega) (by omega) hok5 (by rw [hO5.len]; exact hn5) hge5, hB10⟩
      obtain ⟨A5, n5, c5, u, q, g4, cap, ha, ⟨hTP5, hB5⟩⟩ := hR
      simp only [Act.put, List.setIfInBounds_toArray, List.set_cons_zero, List.set_cons_succ] at ha
      subst ha
      have HN := Lib.hid (show ∃ A n c σ, RowBox 27 36 1 (fun v => #[v]) #[.slice none 0 0] w w5 g (w.heap.size + 1) w.heap.size none 0 0 [] A n c σ ∧ n + (k - 1) ≤ 3 ∧ σ.length = n ∧ ∀ t ∈ σ, TermP [2, 1, 0] t from
        ⟨_, _, _, _, hB5, by omega, by simp [HSL.out], sub3 HST.out hTP5⟩)
      clear hTP5 hB5
      go_wp2_with fail
      go_roundw
      case rel => exact ⟨k - 1, by go_num, by omega, HN⟩
      case measure => simp only [intOf]; omega
    · have hk0 : ¬ (k : Int) > 0 := by omega
      have hbx := HBX.out _ HB.out
      have hbx0 := hbx.1
      have hrb := HB.out.rb
      have hrc : wr.cell? ⟨w.heap.size, 0, none⟩ = some (.slice none 0 0) := cell_of_row wr _ _ _ _ (0, 0) hrb
      have hrf : ∀ j, wr.frozen? ⟨w.heap.size, j, none⟩ = false := fun j => frozen_of_row wr _ _ _ _ hrb
      clear hbx hrb
      go_wp2_with fail
      refine bodyPost_ret (v := .agg #[.slice A n c]) (by simp [results, Try.results20, go_sem, hbx0, hrc, hrf]) rfl ?_
      obtain ⟨cs, h1, h2, h3⟩ := HB.out.row
      have hT : ∀ {A' : Option Addr} {m' c' : Nat} {xs : List Int}, OwI wr w.heap.size A' m' c' xs → RI (wr.setCell ⟨w.heap.size, 0, none⟩ (.slice A n c)) A' m' xs := fun {A' m' c' xs} hO => by
        refine OwI.ri (hO.setFar _ fun b o s e => ?_)
        rcases hO.blk with e0 | ⟨b', cur, e0, _, hb⟩
        · rw [e0] at e; cases e
        · rw [e0] at e; cases e
          intro e2
          have e3 : b = w.heap.size := e2
          subst e3
          rw [HB.out.rb] at hb; cases hb
      refine ⟨A, n, c, σ, rfl, ⟨⟨HSL.out, by omega⟩, fun j xs hx => ?_⟩, ⟨by have := HSL.out; omega, fun t ht _ => HST.out t ht⟩, ?_, ?_⟩
      · obtain ⟨A', m', c', e1, e2⟩ := h3 j xs hx
        have hj : j < n := by have := (List.getElem?_eq_some_iff.1 hx).1; have := HSL.out; omega
        obtain ⟨b, cap, hv, _, hbl⟩ := World.ownsRow.form h1 (by omega)
        cases hv
        refine ⟨b, 0, A', m', c', rfl, ?_, hT e2⟩
        rw [Nat.zero_add]
        have hbr : b ≠ w.heap.size := fun e => by
          obtain ⟨_, _, cur, h5⟩ := ownsRow_at h1 (b := b) rfl
          subst e; rw [HB.out.rb] at h5; cases h5
        rw [World.cell?_setCell_other _ _ _ _ (by first | (simp; done) | (simp; intro e; exact absurd e hbr))]
        rw [World.ownsRow.cellAt h1 j (by omega)]; exact e1
      · exact HB.out.di.below (Below.setCell (Below.refl _ _) (by show g + 1 ≤ w.heap.size; omega) _)
      · exact HB.out.on.grown (Only.setCell _ _ _ _) (fun b e => by cases e; exact Nat.le_refl _)

end Go.Proofs.Ytleahogikppepaa
