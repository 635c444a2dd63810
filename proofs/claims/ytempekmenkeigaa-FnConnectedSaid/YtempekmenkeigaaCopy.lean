/- Copies of integers. -/
import Derived.Test.YtempekmenkeigaaPG
import Derived.Test.YtempekmenkeigaaArgs
import Derived.Lib.LazyBuf
namespace Go.Proofs.Ytempekmenkeigaa
open Go.RowKit
set_option linter.unusedSimpArgs false
set_option linter.unusedVariables false

theorem wpList_append_new {P : Program} {w : World} {ops : Array Oper} {rest : List Oper} {o : Oper} {a : Act} {Q : Exit → Act → World → Prop} (hgd : o.guard = none) (s x : Operand) (t : TypeId)
    (ho : o.op = .call { callee := .builtin .append, args := #[s, x], argTypes := #[t, t] }) (i : TypeInfo) (ht : P.underlying t = some (.slice 2)) (hi : P.info? 2 = some i) (hz : i.zero = some (.int .i64 0))
    (hsize : i.size = 1) (hby : i.bytes = 8) {D m d g : Nat} {B : Option Addr} {ys : List Int} (hs : a.eval s = .slice (some ⟨g, 0, none⟩) 0 0) (h : OwI w D (some ⟨g, 0, none⟩) 0 0 []) (hx : a.eval x = .slice B m d) (hb : RI w B m ys) (hD : D ≤ w.heap.size)
    (hK : ∀ A' c' w', OwI w' D A' m c' ys → w.grownBy w' (some g) → (∀ b o s, A' = some ⟨b, o, s⟩ → b = g ∨ b = w.heap.size) → wpList P ops Q rest (a.put o.dst (.slice A' m c')) w') : wpList P ops Q (o :: rest) a w :=
  wpList_plain hgd fun _ hk => wp_append_new s x t ho i ht hi hz hsize hby hs h hx hb hD fun A' c' w' h1 h2 h3 => hk _ _ (hK A' c' w' h1 h2 h3)
theorem wpList_append_ints {P : Program} {w : World} {ops : Array Oper} {rest : List Oper} {o : Oper} {a : Act} {Q : Exit → Act → World → Prop} (hgd : o.guard = none) (s x : Operand) (t : TypeId)
    (ho : o.op = .call { callee := .builtin .append, args := #[s, x], argTypes := #[t, t] }) (i : TypeInfo) (ht : P.underlying t = some (.slice 2)) (hi : P.info? 2 = some i) (hz : i.zero = some (.int .i64 0))
    (hsize : i.size = 1) (hby : i.bytes = 8) {D n c m d : Nat} {A B : Option Addr} {xs ys : List Int} (hs : a.eval s = .slice A n c) (h : OwI w D A n c xs) (hx : a.eval x = .slice B m d) (hb : RI w B m ys) (hnm : n + m ≤ 4194304) (hD : D ≤ w.heap.size) (hnc : n ≤ c)
    (hK : ∀ A' c' w', OwI w' D A' (n + m) c' (xs ++ ys) → w.grownBy w' (Value.slice A n c).ownBlock → (∀ b o s, A' = some ⟨b, o, s⟩ → (Value.slice A n c).ownBlock = some b ∨ b = w.heap.size) → wpList P ops Q rest (a.put o.dst (.slice A' (n + m) c')) w') : wpList P ops Q (o :: rest) a w :=
  wpList_plain hgd fun _ hk => wp_append_ints s x t ho i ht hi hz hsize hby hs h hx hb hnm hD hnc fun A' c' w' h1 h2 h3 => hk _ _ (hK A' c' w' h1 h2 h3)
set_option maxRecDepth 100000 in
set_option maxHeartbeats 1000000 in
theorem c_l1Copy {A : Option Addr} {n c : Nat} {xs : List Int} {w : World} (h0 : RI w A n xs) : Calls Try.prog 62 #[.slice A n c] w (NewI w xs) := by
  have HA := Lib.hid h0
  obtain ⟨i0, hii, hiz, his, hib⟩ := info_parts int64_info
  clear h0
  go_enter Try.func62, Try.ntmps62
  go_wp2_with (at_builtin; go_loud (refine wpList_append_new rfl (.tmp 3) (.tmp 4) 22 rfl i0 Try.underlying22 hii hiz his hib (D := w.heap.size) rfl (OwI.none0 (Nat.le_refl _)) rfl (RI.ext HA.out (by exact extX)) (by go_size) ?_))
  intro A2 c2 w2 hO hg hat
  have HO := Lib.hid hO
  have hE : Ext w w2 := Ext.grown ((Ext.refl w).alloc _) hg (fun k hk => by cases hk; exact Nat.le_refl _)
  clear hO hg hat
  go_wp2
  go_ret
  exact ⟨A2, n, c2, rfl, HO.out, hE⟩
set_option maxRecDepth 100000 in
set_option maxHeartbeats 1000000 in
theorem c_clone {A : Option Addr} {n c : Nat} {xs : List Int} {w : World} (h0 : RI w A n xs) : Calls Try.prog 86 #[.slice A n c] w (NewI w xs) := by
  have hn := h0.le
  cases A with
  | none =>
    have hz : n = 0 := by
      rcases Nat.eq_zero_or_pos n with h | h
      · exact h
      · obtain ⟨b, o, e, _⟩ := h0.2 h; cases e
    have hx : xs = [] := List.length_eq_zero_iff.1 (by rw [h0.len, hz])
    subst hx
    subst hz
    have hnil : ∀ w : World, (binOp .eql 22 (.slice none 0 c) (.slice none 0 0)).run Try.prog w = .ok (.bool true) w := fun w => run_eql_slice_nil w _ _ none 0 c Try.underlying22
    go_enter Try.func86, Try.ntmps86
    go_wp2
    go_ret
    exact ⟨none, 0, 0, rfl, ⟨by omega, World.ownsRow_nil _ _ _ _⟩, Ext.refl _⟩
  | some p =>
    have HA := Lib.hid h0
    obtain ⟨i0, hii, hiz, his, hib⟩ := info_parts int64_info
    have hnil : ∀ w : World, (binOp .eql 22 (.slice (some p) n c) (.slice none 0 0)).run Try.prog w = .ok (.bool false) w := fun w => run_eql_slice_nil w _ _ (some p) n c Try.underlying22
    clear h0
    go_enter Try.func86, Try.ntmps86
    go_wp2_with (at_builtin; go_loud (refine wpList_append_new rfl (.tmp 5) (.tmp 6) 22 rfl i0 Try.underlying22 hii hiz his hib (D := w.heap.size) rfl (OwI.none0 (Nat.le_refl _)) rfl (RI.ext HA.out (by exact extX)) (by go_size) ?_))
    intro A2 c2 w2 hO hg hat
    have HO := Lib.hid hO
    have hE : Ext w w2 := Ext.grown ((Ext.refl w).alloc _) hg (fun k hk => by cases hk; exact Nat.le_refl _)
    clear hO hg hat
    go_wp2
    go_ret
    exact ⟨A2, n, c2, rfl, HO.out, hE⟩

end Go.Proofs.Ytempekmenkeigaa
