/- Slices of Go's ints of the call's own: copies, a place taken out, a search by a function. -/
import Derived.Test.YtleahogikppepaaCopy
import Derived.Shelf.SlicesG.Delete
namespace Go.Proofs.Ytleahogikppepaa
open Go.RowKit
set_option linter.unusedSimpArgs false
set_option linter.unusedVariables false

theorem OwN.form {w : World} {B n c : Nat} {A : Option Addr} {xs : List Int} (h : OwN w B A n c xs) : (A = none ∧ n = 0 ∧ c = 0) ∨ ∃ g, A = some ⟨g, 0, none⟩ ∧ B ≤ g ∧ g < w.heap.size := by
  rcases h.2.2 with ⟨hv, hn⟩ | ⟨g, cap, cur, hv, hg, hh, _⟩
  · cases hv; exact .inl ⟨rfl, rfl, rfl⟩
  · cases hv; exact .inr ⟨g, rfl, hg, (Array.getElem?_eq_some_iff.1 hh).1⟩
theorem OwN.bd {w : World} {B n c : Nat} {A : Option Addr} {xs : List Int} (h : OwN w B A n c xs) : ∀ g o s, A = some ⟨g, o, s⟩ → B ≤ g ∧ g < w.heap.size := by
  intro g o s hA
  rcases h.form with ⟨h0, _⟩ | ⟨g', hA', hlo, hlt⟩
  · rw [h0] at hA; cases hA
  · rw [hA'] at hA; cases hA; exact ⟨hlo, hlt⟩
theorem OwN.cap {w : World} {B : Nat} {A : Option Addr} {n c : Nat} {xs : List Int} (h : OwN w B A n c xs) : n ≤ c ∧ c ≤ 9223372036854775807 := by
  rcases h.2.2 with ⟨hv, hn⟩ | ⟨g, cap, cur, hv, hg, hh, h1, h2, _⟩
  · cases hv; omega
  · cases hv; exact ⟨h1, h2⟩
theorem OwN.heap {w w' : World} {B n c : Nat} {A : Option Addr} {xs : List Int} (h : OwN w B A n c xs) (hk : ∀ g, A = some ⟨g, 0, none⟩ → w'.heap[g]? = w.heap[g]?) : OwN w' B A n c xs := by
  refine ⟨h.1, h.2.1, ?_⟩
  rcases h.2.2 with h2 | ⟨g, cap, cur, hv, hg, hh, r⟩
  · exact .inl h2
  · have hA : A = some ⟨g, 0, none⟩ := by cases hv; rfl
    exact .inr ⟨g, cap, cur, hv, hg, by rw [hk g hA]; exact hh, r⟩
theorem OwN.lower {w : World} {B B' n c : Nat} {A : Option Addr} {xs : List Int} (h : OwN w B A n c xs) (hB : B' ≤ B) : OwN w B' A n c xs := by
  refine ⟨h.1, h.2.1, ?_⟩
  rcases h.2.2 with h2 | ⟨g, cap, cur, hv, hg, r⟩
  · exact .inl h2
  · exact .inr ⟨g, cap, cur, hv, by omega, r⟩
/-- A list of Go's ints of the call's own. -/
def NewN (w : World) (xs : List Int) (e : Ending) (w' : World) : Prop := ∃ A n c, e = .returned (.slice A n c) ∧ OwN w' w.heap.size A n c xs ∧ Ext w w'
theorem OwN.none0 {w : World} {D : Nat} (hD : D ≤ w.heap.size) : OwN (w.alloc (.cells #[] 3)) D (some ⟨w.heap.size, 0, none⟩) 0 0 [] :=
  ⟨by omega, World.ownsRow_made w #[] 0 hD (by decide) rfl⟩
/-- Some or no integers are appended to integers of the call's own: at the operation, in whatever order. -/
theorem wp_append_intsN {P : Program} {w : World} {o : Oper} {a : Act} {K : Act → World → Prop} {Q : Exit → Act → World → Prop} (s x : Operand) (t : TypeId)
    (ho : o.op = .call { callee := .builtin .append, args := #[s, x], argTypes := #[t, t] }) (i : TypeInfo) (ht : P.underlying t = some (.slice 3)) (hi : P.info? 3 = some i) (hz : i.zero = some (.int .i64 0))
    (hsize : i.size = 1) (hby : i.bytes = 8) {D n c m d : Nat} {A B : Option Addr} {xs ys : List Int} (hs : a.eval s = .slice A n c) (h : OwN w D A n c xs) (hx : a.eval x = .slice B m d) (hb : RI w B m ys) (hnm : n + m ≤ 4194304) (hD : D ≤ w.heap.size) (hnc : n ≤ c)
    (hK : ∀ A' c' w', OwN w' D A' (n + m) c' (xs ++ ys) → w.grownBy w' (Value.slice A n c).ownBlock → (∀ b o s, A' = some ⟨b, o, s⟩ → (Value.slice A n c).ownBlock = some b ∨ b = w.heap.size) → K (a.put o.dst (.slice A' (n + m) c')) w') : o.wp P a w K Q := by
  rcases Nat.eq_zero_or_pos m with h0 | h0
  · subst h0
    have hys : ys = [] := List.length_eq_zero_iff.1 hb.len
    subst hys
    have hr : ∀ ty, (Builtin.append_ #[t, t] ty #[.slice A n c, .slice B 0 d]).run P w = .ok (.slice A n c) w := by
      intro ty
      cases A <;> cases B <;> simp [Builtin.append_, run_underlying ht, sizeOf, typeInfo, hi, hnc, storeCells, loadCells, Builtin.lenOf, Builtin.firstCells, loadCellsFrom, storeCells]
    unfold Oper.wp execOp
    simp only [ho, resolve, invoke, builtin, Sem.run_bind, Sem.run_pure, Result.andThen_ok, List.map_toArray, List.map_cons, List.map_nil, hs, hx, hr]
    exact hK A c w (by simpa using h) (World.grownBy.refl _ _) (fun b o s e => by subst e; exact .inl rfl)
  · obtain ⟨b, q, rfl, hc⟩ := hb.2 h0
    refine wp_append_lies w s x t ho D 3 i (.int .i64 0) 1 8 ht hi hz hsize hby rfl (by decide) _ n _ hs h.2 ⟨b, q, none⟩ m d (ys.map (Value.int .i64)) hx (by simp [hb.len]) (fun j u hu => ?_) (fun u hu => ?_) h0 (by unfold maxLen; omega) (by omega) hD _ rfl (fun g cap w' h2 h3 h4 h5 => ?_)
    · rw [List.getElem?_map] at hu
      obtain ⟨y, hy, rfl⟩ := Option.map_eq_some_iff.1 hu
      have : (⟨b, q, none⟩ : Addr).add j = ⟨b, q + j, none⟩ := by unfold Addr.add; split <;> simp_all
      rw [this]; exact hc j y hy
    · obtain ⟨y, _, rfl⟩ := List.mem_map.1 hu; rfl
    · exact hK _ cap w' ⟨hnm, by rw [List.map_append]; exact h2⟩ h3 (fun b o s e => by cases e; exact h4)

/-- The same, to a new and empty slice. -/
theorem wp_append_newN {P : Program} {w : World} {o : Oper} {a : Act} {K : Act → World → Prop} {Q : Exit → Act → World → Prop} (s x : Operand) (t : TypeId)
    (ho : o.op = .call { callee := .builtin .append, args := #[s, x], argTypes := #[t, t] }) (i : TypeInfo) (ht : P.underlying t = some (.slice 3)) (hi : P.info? 3 = some i) (hz : i.zero = some (.int .i64 0))
    (hsize : i.size = 1) (hby : i.bytes = 8) {D m d g : Nat} {B : Option Addr} {ys : List Int} (hs : a.eval s = .slice (some ⟨g, 0, none⟩) 0 0) (h : OwN w D (some ⟨g, 0, none⟩) 0 0 []) (hx : a.eval x = .slice B m d) (hb : RI w B m ys) (hD : D ≤ w.heap.size)
    (hK : ∀ A' c' w', OwN w' D A' m c' ys → w.grownBy w' (some g) → (∀ b o s, A' = some ⟨b, o, s⟩ → b = g ∨ b = w.heap.size) → K (a.put o.dst (.slice A' m c')) w') : o.wp P a w K Q := by
  refine wp_append_intsN s x t ho i ht hi hz hsize hby hs h hx hb (by have := hb.le; omega) hD (Nat.le_refl _) fun A' c' w' h1 h2 h3 => ?_
  rw [Nat.zero_add] at h1 ⊢
  exact hK A' c' w' (by simpa using h1) h2 fun b o s e => (h3 b o s e).imp (fun e => by cases e; rfl) id

theorem wpList_append_newN {P : Program} {w : World} {ops : Array Oper} {rest : List Oper} {o : Oper} {a : Act} {Q : Exit → Act → World → Prop} (hgd : o.guard = none) (s x : Operand) (t : TypeId)
    (ho : o.op = .call { callee := .builtin .append, args := #[s, x], argTypes := #[t, t] }) (i : TypeInfo) (ht : P.underlying t = some (.slice 3)) (hi : P.info? 3 = some i) (hz : i.zero = some (.int .i64 0))
    (hsize : i.size = 1) (hby : i.bytes = 8) {D m d g : Nat} {B : Option Addr} {ys : List Int} (hs : a.eval s = .slice (some ⟨g, 0, none⟩) 0 0) (h : OwN w D (some ⟨g, 0, none⟩) 0 0 []) (hx : a.eval x = .slice B m d) (hb : RI w B m ys) (hD : D ≤ w.heap.size)
    (hK : ∀ A' c' w', OwN w' D A' m c' ys → w.grownBy w' (some g) → (∀ b o s, A' = some ⟨b, o, s⟩ → b = g ∨ b = w.heap.size) → wpList P ops Q rest (a.put o.dst (.slice A' m c')) w') : wpList P ops Q (o :: rest) a w :=
  wpList_plain hgd fun _ hk => wp_append_newN s x t ho i ht hi hz hsize hby hs h hx hb hD fun A' c' w' h1 h2 h3 => hk _ _ (hK A' c' w' h1 h2 h3)
theorem wpList_append_intsN {P : Program} {w : World} {ops : Array Oper} {rest : List Oper} {o : Oper} {a : Act} {Q : Exit → Act → World → Prop} (hgd : o.guard = none) (s x : Operand) (t : TypeId)
    (ho : o.op = .call { callee := .builtin .append, args := #[s, x], argTypes := #[t, t] }) (i : TypeInfo) (ht : P.underlying t = some (.slice 3)) (hi : P.info? 3 = some i) (hz : i.zero = some (.int .i64 0))
    (hsize : i.size = 1) (hby : i.bytes = 8) {D n c m d : Nat} {A B : Option Addr} {xs ys : List Int} (hs : a.eval s = .slice A n c) (h : OwN w D A n c xs) (hx : a.eval x = .slice B m d) (hb : RI w B m ys) (hnm : n + m ≤ 4194304) (hD : D ≤ w.heap.size) (hnc : n ≤ c)
    (hK : ∀ A' c' w', OwN w' D A' (n + m) c' (xs ++ ys) → w.grownBy w' (Value.slice A n c).ownBlock → (∀ b o s, A' = some ⟨b, o, s⟩ → (Value.slice A n c).ownBlock = some b ∨ b = w.heap.size) → wpList P ops Q rest (a.put o.dst (.slice A' (n + m) c')) w') : wpList P ops Q (o :: rest) a w :=
  wpList_plain hgd fun _ hk => wp_append_intsN s x t ho i ht hi hz hsize hby hs h hx hb hnm hD hnc fun A' c' w' h1 h2 h3 => hk _ _ (hK A' c' w' h1 h2 h3)
set_option maxRecDepth 100000 in
set_option maxHeartbeats 1000000 in
theorem c_cloneN {A : Option Addr} {n c : Nat} {xs : List Int} {w : World} (h0 : RI w A n xs) : Calls Try.prog 180 #[.slice A n c] w (NewN w xs) := by
  have hn := h0.le
  cases A with
  | none =>
    have hz : n = 0 := by
      rcases Nat.eq_zero_or_pos n with h | h
      · exact h
      · obtain ⟨b, o, e, _⟩ := h0.2 h; cases e
    have hx : xs = [] := List.length_eq_zero_iff.1 (by rw [h0.len, hz])
    subst hx
    subst hz
    have hnil : ∀ w : World, (binOp .eql 153 (.slice none 0 c) (.slice none 0 0)).run Try.prog w = .ok (.bool true) w := fun w => run_eql_slice_nil w _ _ none 0 c Try.underlying153
    go_enter Try.func180, Try.ntmps180
    go_wp2
    go_ret
    exact ⟨none, 0, 0, rfl, ⟨by omega, World.ownsRow_nil _ _ _ _⟩, Ext.refl _⟩
  | some p =>
    have HA := Lib.hid h0
    obtain ⟨i0, hii, hiz, his, hib⟩ := info_parts int_info
    have hnil : ∀ w : World, (binOp .eql 153 (.slice (some p) n c) (.slice none 0 0)).run Try.prog w = .ok (.bool false) w := fun w => run_eql_slice_nil w _ _ (some p) n c Try.underlying153
    clear h0
    go_enter Try.func180, Try.ntmps180
    go_wp2_with (at_builtin; go_loud (refine wpList_append_newN rfl (.tmp 5) (.tmp 6) 153 rfl i0 Try.underlying153 hii hiz his hib (D := w.heap.size) rfl (OwN.none0 (Nat.le_refl _)) rfl (RI.ext HA.out (by exact extX)) (by go_size) ?_))
    intro A2 c2 w2 hO hg hat
    have HO := Lib.hid hO
    have hE : Ext w w2 := Ext.grown ((Ext.refl w).alloc _) hg (fun k hk => by cases hk; exact Nat.le_refl _)
    clear hO hg hat
    go_wp2
    go_ret
    exact ⟨A2, n, c2, rfl, HO.out, hE⟩

def lay45_ren : Go.Shelf.Ren := ⟨fun | 45 => 183 | n => n, fun | 22 => 153 | 23 => 3 | 3 => 3 | 4 => 4 | 0 => 0 | n => n, fun n => n⟩
theorem lay45 : SlLaysN.n45 Try.prog lay45_ren := { mixed := by kernel_rfl, f45 := ⟨Try.f183.name, by decide, Try.func183.trans (congrArg some (by kernel_rfl))⟩, t0 := Try.underlying0, a0 := Try.isAgg0, z0 := Try.sizeOf0, v0 := Try.zeroValue0, t3 := Try.underlying3, a3 := Try.isAgg3, z3 := Try.sizeOf3, v3 := Try.zeroValue3, t4 := Try.underlying4, a4 := Try.isAgg4, z4 := Try.sizeOf4, v4 := Try.zeroValue4, t22 := Try.underlying153, a22 := Try.isAgg153, z22 := Try.sizeOf153, v22 := Try.zeroValue153, t23 := Try.underlying3, a23 := Try.isAgg3, z23 := Try.sizeOf3, v23 := Try.zeroValue3, i23 := by kernel_rfl }
/-- A slice of ints in a block that may be written: its elements are xs. -/
def HoN (w : World) (B : Nat) (A : Option Addr) (n c : Nat) (xs : List Int) : Prop := xs.length = n ∧ n ≤ 4194304 ∧ n ≤ c ∧ c ≤ 9223372036854775807 ∧ ((A = none ∧ n = 0) ∨ ∃ b, A = some ⟨b, 0, none⟩ ∧ B ≤ b ∧ b < w.heap.size ∧ ∀ j x, xs[j]? = some x → w.cell? ⟨b, j, none⟩ = some (.int .i64 x) ∧ w.frozen? ⟨b, j, none⟩ = false)
theorem OwN.ho {w : World} {B n c : Nat} {A : Option Addr} {xs : List Int} (h : OwN w B A n c xs) : HoN w B A n c xs := by
  refine ⟨h.len, h.1, h.cap.1, h.cap.2, ?_⟩
  rcases h.form with ⟨h0, h1, _⟩ | ⟨g, rfl, h1, h2⟩
  · exact .inl ⟨h0, h1⟩
  · refine .inr ⟨g, rfl, h1, h2, fun j x hx => ?_⟩
    have hj : j < n := by have := (List.getElem?_eq_some_iff.1 hx).1; rw [h.len] at this; exact this
    refine ⟨?_, World.ownsRow.frozenAt h.2 j⟩
    rw [World.ownsRow.cellAt h.2 j (by omega)]
    simp [hx]
theorem HoN.ri {w : World} {B n c : Nat} {A : Option Addr} {xs : List Int} (h : HoN w B A n c xs) : RI w A n xs := by
  obtain ⟨h1, h2, _, _, h3⟩ := h
  refine ⟨⟨h1, h2⟩, fun hn => ?_⟩
  rcases h3 with ⟨_, h0⟩ | ⟨b, rfl, _, _, h4⟩
  · omega
  · exact ⟨b, 0, rfl, fun j x hx => by rw [Nat.zero_add]; exact (h4 j x hx).1⟩
theorem HoN.heap {w w' : World} {B n c : Nat} {A : Option Addr} {xs : List Int} (h : HoN w B A n c xs) (hs : w.heap.size ≤ w'.heap.size) (hk : ∀ g, A = some ⟨g, 0, none⟩ → w'.heap[g]? = w.heap[g]?) : HoN w' B A n c xs := by
  obtain ⟨h1, h2, h5, h6, h3⟩ := h
  refine ⟨h1, h2, h5, h6, ?_⟩
  rcases h3 with h0 | ⟨b, rfl, h7, h8, h4⟩
  · exact .inl h0
  · refine .inr ⟨b, rfl, h7, by omega, fun j x hx => ?_⟩
    exact ⟨(World.cell?_of_block (hk b rfl)).trans (h4 j x hx).1, (World.frozen?_of_block (hk b rfl)).trans (h4 j x hx).2⟩
theorem HoN.bd {w : World} {B n c : Nat} {A : Option Addr} {xs : List Int} (h : HoN w B A n c xs) (hn : 0 < n) : ∃ b, A = some ⟨b, 0, none⟩ ∧ B ≤ b ∧ b < w.heap.size := by
  obtain ⟨_, _, _, _, h3⟩ := h
  rcases h3 with ⟨_, h0⟩ | ⟨b, h1, h2, h4, _⟩
  · omega
  · exact ⟨b, h1, h2, h4⟩
theorem c_deleteN {b n c B k : Nat} {xs : List Int} {w : World} (h : HoN w B (some ⟨b, 0, none⟩) n c xs) (hk : k < n) :
    Calls Try.prog 183 #[.slice (some ⟨b, 0, none⟩) n c, .int .i64 (k : Int), .int .i64 ((k : Int) + 1)] w fun e w' => e = .returned (.slice (some ⟨b, 0, none⟩) (n - 1) c) ∧ HoN w' B (some ⟨b, 0, none⟩) (n - 1) c (xs.eraseIdx k) ∧ Only w w' b := by
  obtain ⟨h1, h2, h5, h6, h3⟩ := h
  subst h1
  rcases h3 with ⟨h0, _⟩ | ⟨b', e, h7, h8, h4⟩
  · cases h0
  cases e
  have hH : Go.Sort.Holds (Value.int .i64) w b 0 xs.toArray := fun j hj => by
    have hj' : j < xs.length := by simpa using hj
    have := h4 j xs[j] (List.getElem?_eq_getElem hj')
    rw [Nat.zero_add]
    simpa [getElem!_pos, hj'] using this
  have h := AnyG.slices_Delete_int lay45 b 0 c k (k + 1) xs w hH h5 h6 (by omega) (by omega)
  have e1 : ((k + 1 : Nat) : Int) = (k : Int) + 1 := by omega
  rw [e1] at h
  refine Calls.mono h ?_
  rintro e w' ⟨rfl, q, rfl⟩
  have hl : (xs.take k ++ xs.drop (k + 1) ++ List.replicate (k + 1 - k) 0).toArray.size = xs.toArray.size := by simp; omega
  have hH2 := Go.Sort.holds_putRow (Value.int .i64) (Go.Sort.ahead w q) b 0 xs.toArray _ (Go.Sort.holds_ahead _ w q b 0 _ hH) hl
  have hsz : (Go.Sort.putRow (Value.int .i64) (Go.Sort.ahead w q) b 0 (xs.take k ++ xs.drop (k + 1) ++ List.replicate (k + 1 - k) 0).toArray).heap.size = w.heap.size := by
    unfold Go.Sort.putRow Go.Sort.mapBlock Go.Sort.ahead; simp
  have hel : (xs.eraseIdx k).length = xs.length - 1 := List.length_eraseIdx_of_lt hk
  refine ⟨by rw [show xs.length - (k + 1 - k) = xs.length - 1 by omega], ⟨hel, by omega, by omega, h6, .inr ⟨b, rfl, h7, by rw [hsz]; exact h8, fun j x hx => ?_⟩⟩, ?_⟩
  · have hj : j < xs.length - 1 := by have := (List.getElem?_eq_some_iff.1 hx).1; omega
    obtain ⟨g1, g2⟩ := hH2 j (by rw [hl]; simp; omega)
    rw [Nat.zero_add] at g1 g2
    refine ⟨?_, g2⟩
    rw [g1]
    congr 2
    have e2 : (xs.take k ++ xs.drop (k + 1) ++ List.replicate (k + 1 - k) 0)[j]? = some x := by
      rw [List.getElem?_append_left (by simp; omega), ← List.eraseIdx_eq_take_drop_succ]; exact hx
    have hj2 : j < (xs.take k ++ xs.drop (k + 1) ++ List.replicate (k + 1 - k) 0).length := (List.getElem?_eq_some_iff.1 e2).1
    rw [getElem!_pos _ j (by simpa using hj2)]
    have := (List.getElem?_eq_some_iff.1 e2).2
    simpa using this
  · refine ⟨rfl, rfl, rfl, by rw [hsz]; exact Nat.le_refl _, fun i hi hne => ?_⟩
    unfold Go.Sort.putRow Go.Sort.mapBlock Go.Sort.ahead
    simp only [Array.getElem?_modify]
    rw [if_neg (fun e => hne (by rw [e]))]
/-- Where a test first holds, or -1. -/
def IdxAt (p : Int → Bool) (xs : List Int) (r : Int) : Prop := (∃ (k : Nat) (x : Int), r = k ∧ xs[k]? = some x ∧ p x = true ∧ ∀ (j : Nat) (y : Int), j < k → xs[j]? = some y → p y = false) ∨ (r = -1 ∧ ∀ (j : Nat) (y : Int), xs[j]? = some y → p y = false)
def IdxPost (p : Int → Bool) (xs : List Int) (S : World → Prop) (e : Ending) (w' : World) : Prop := ∃ r, e = .returned (.int .i64 r) ∧ IdxAt p xs r ∧ S w'
set_option maxRecDepth 100000 in
set_option maxHeartbeats 2000000 in
theorem c_indexFuncN {A : Option Addr} {n c F : Nat} {xs : List Int} {cap : Array Value} {w : World} {p : Int → Bool} {S : World → Prop} (he : ∀ (args : Array Value) (w : World), (callFunc F args).run Try.prog w = .ok (.enter F args) w) (hS : S w) (hr : ∀ wr, S wr → RI wr A n xs)
    (hc : ∀ (k : Nat) (x : Int), xs[k]? = some x → ∀ wr, S wr → Calls Try.prog F (#[.int .i64 x] ++ cap) wr fun e w' => e = .returned (.bool (p x)) ∧ S w') :
    Calls Try.prog 181 #[.slice A n c, .func (.func F) #[] cap] w (IdxPost p xs S) := by
  have hn := (hr w hS).le
  have hl := (hr w hS).len
  have HS := Lib.hid hS
  have HR := Lib.hid hr
  have HC := Lib.hid hc
  have HL := Lib.hid hl
  clear hS hr hc hl
  go_enter Try.func181, Try.ntmps181
  go_wp2_with fail
  go_loopw [8] (fun i wr => ∃ q : Nat, i = .int .i64 q ∧ q ≤ n ∧ Hid (∀ (j : Nat) (y : Int), j < q → xs[j]? = some y → p y = false) ∧ Hid (S wr)) (fun i _ => n - (intOf i).toNat)
  case atStart => exact ⟨0, rfl, Nat.zero_le _, Lib.hid (fun j y hj => by omega), HS⟩
  case round =>
    obtain ⟨q, rfl, hq, hno, hSr⟩ := hrel
    by_cases hlt : q < n
    · obtain ⟨b, o, x, rfl, hx, hcx⟩ := RI.at_ (HR.out wr hSr.out) hlt
      have HX := Lib.hid hx
      have hq1 : (q : Int) < (n : Int) := by omega
      have hq0 : (0 : Int) ≤ (q : Int) := by omega
      have HCX := Lib.hid (HC.out q x hx wr hSr.out)
      clear hx
      cases hpx : p x with
      | true =>
        have HPX := Lib.hid hpx
        rw [hpx] at HCX
        clear hpx
        go_wp2_with fail
        (with_reducible refine HCX.out.mono ?_)
        rintro e w5 ⟨rfl, hS5⟩
        have HS5 := Lib.hid hS5
        clear hS5
        go_wp2
        go_ret
        exact ⟨(q : Int), rfl, .inl ⟨q, x, rfl, HX.out, HPX.out, hno.out⟩, HS5.out⟩
      | false =>
        have HN := Lib.hid (show ∀ (j : Nat) (y : Int), j < q + 1 → xs[j]? = some y → p y = false from fun j y hj hy => by
          rcases Nat.lt_or_ge j q with h | h
          · exact hno.out j y h hy
          · obtain rfl : j = q := by omega
            rw [HX.out] at hy; cases hy; exact hpx)
        rw [hpx] at HCX
        clear hpx
        go_wp2_with fail
        (with_reducible refine HCX.out.mono ?_)
        rintro e w5 ⟨rfl, hS5⟩
        have HS5 := Lib.hid hS5
        clear hS5
        go_wp2
        go_roundw
        case rel => exact ⟨q + 1, by go_num, by omega, HN, HS5⟩
        case measure => simp only [intOf]; omega
    · have hqn : q = n := by omega
      go_wp2
      go_ret
      exact ⟨-1, rfl, .inr ⟨rfl, fun j y hy => hno.out j y (by have := (List.getElem?_eq_some_iff.1 hy).1; rw [HL.out] at this; omega) hy⟩, hSr.out⟩
theorem IdxAt.any {p : Int → Bool} {xs : List Int} {r : Int} (h : IdxAt p xs r) : -1 ≤ r ∧ decide (0 ≤ r) = xs.any p := by
  rcases h with ⟨k, x, rfl, hx, hp, _⟩ | ⟨rfl, h⟩
  · refine ⟨by omega, ?_⟩
    rw [show xs.any p = true from List.any_eq_true.2 ⟨x, List.mem_of_getElem? hx, hp⟩]
    simp
  · refine ⟨by omega, ?_⟩
    rw [show xs.any p = false from List.any_eq_false.2 fun x hx => by
      obtain ⟨j, hj, e⟩ := List.mem_iff_getElem.1 hx
      rw [h j x (by rw [List.getElem?_eq_getElem hj, e])]; decide]
    rfl
set_option maxRecDepth 100000 in
set_option maxHeartbeats 1000000 in
theorem c_containsFuncN {A : Option Addr} {n c F : Nat} {xs : List Int} {cap : Array Value} {w : World} {p : Int → Bool} {S : World → Prop} (he : ∀ (args : Array Value) (w : World), (callFunc F args).run Try.prog w = .ok (.enter F args) w) (hS : S w) (hr : ∀ wr, S wr → RI wr A n xs)
    (hc : ∀ (k : Nat) (x : Int), xs[k]? = some x → ∀ wr, S wr → Calls Try.prog F (#[.int .i64 x] ++ cap) wr fun e w' => e = .returned (.bool (p x)) ∧ S w') :
    Calls Try.prog 184 #[.slice A n c, .func (.func F) #[] cap] w fun e w' => e = .returned (.bool (xs.any p)) ∧ S w' := by
  have HI := Lib.hid (c_indexFuncN (c := c) he hS hr hc)
  clear hS hr hc
  go_enter Try.func184, Try.ntmps184
  go_wp2_with fail
  (with_reducible refine HI.out.mono ?_)
  rintro e w5 ⟨r, rfl, hI, hS5⟩
  have HS5 := Lib.hid hS5
  have HA := Lib.hid hI.any.2
  clear hS5 hI
  go_wp2
  go_ret
  exact ⟨ret_bool (by rw [← HA.out]), HS5.out⟩

end Go.Proofs.Ytleahogikppepaa
