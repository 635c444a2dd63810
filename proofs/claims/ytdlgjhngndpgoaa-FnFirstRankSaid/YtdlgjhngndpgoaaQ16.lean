/- Several texts in one: PB, MPoly, MForm, PG, Copy, NextI, MRk. -/
import Derived.Test.YtdlgjhngndpgoaaQ12
import Derived.Test.YtdlgjhngndpgoaaQ10
import Derived.Deep.AppendLies
import Derived.Lib.LazyBuf
import Derived.ArgAppend
import Derived.Test.YtdlgjhngndpgoaaQ15
import Derived.Test.YtdlgjhngndpgoaaQ11
import Derived.Lib.OwnBridge
import Derived.Shelf.SortM.Plain
import Derived.Shelf.SortM.SortNone
import Derived.Shelf.SlicesG.Reverse
namespace Go.Proofs.Ytdlgjhngndpgoaa
open Go.RowKit
set_option linter.unusedSimpArgs false
set_option linter.unusedVariables false
theorem OwI.ob2 {w : World} {D n c : Nat} {A : Option Addr} {xs : List Int} (h : OwI w D A n c xs) : ∀ k, (Value.slice A n c).ownBlock = some k → D ≤ k ∧ k < w.heap.size := by
  intro k hk
  cases A with
  | none => cases hk
  | some p => obtain ⟨g, o, s⟩ := p; cases hk; exact h.bd _ _ _ rfl
section
variable {w1 wr wx : World} {x y : Int} {A : Option Addr} {cA g cap : Nat} {xs : List Int} {o : Obj}
end
end Go.Proofs.Ytdlgjhngndpgoaa
namespace Go.Proofs.Ytdlgjhngndpgoaa
structure Pl where
  c : Int
  cf : List Int
end Go.Proofs.Ytdlgjhngndpgoaa
namespace Go.Proofs.Ytdlgjhngndpgoaa
def addL : List Int → List Int → Int → List Int
  | as1, [], _ => as1
  | [], b :: bs, m => m * b :: addL [] bs m
  | a :: as1, b :: bs, m => (a + m * b) :: addL as1 bs m
def addP (a b : Pl) (m : Int) : Pl := ⟨a.c + m * b.c, addL a.cf b.cf m⟩
def sumTo (p : Pl) (fs : List Pl) : Nat → Pl
  | 0 => ⟨p.c, []⟩
  | k + 1 => addP (sumTo p fs k) (fs.getD k ⟨0, []⟩) (p.cf.getD k 0)
end Go.Proofs.Ytdlgjhngndpgoaa
namespace Go.Proofs.Ytdlgjhngndpgoaa
open Go.RowKit
set_option linter.unusedSimpArgs false
set_option linter.unusedVariables false
section
variable {w1 wr wx : World} {x y : Int} {A : Option Addr} {q cA g cap : Nat} {xs : List Int} {o : Obj}
end
section
variable {w1 wr : World} {q : Nat} {x : Int} {A : Option Addr} {n cA : Nat} {xs : List Int} {u v : Value}
end
theorem wp_append_ints {P : Program} {w : World} {o : Oper} {a : Act} {K : Act → World → Prop} {Q : Exit → Act → World → Prop} (s x : Operand) (t : TypeId)
    (ho : o.op = .call { callee := .builtin .append, args := #[s, x], argTypes := #[t, t] }) (i : TypeInfo) (ht : P.underlying t = some (.slice 2)) (hi : P.info? 2 = some i) (hz : i.zero = some (.int .i64 0))
    (hsize : i.size = 1) (hby : i.bytes = 8) {D n c m d : Nat} {A B : Option Addr} {xs ys : List Int} (hs : a.eval s = .slice A n c) (h : OwI w D A n c xs) (hx : a.eval x = .slice B m d) (hb : RI w B m ys) (hnm : n + m ≤ 4194304) (hD : D ≤ w.heap.size) (hnc : n ≤ c)
    (hK : ∀ A' c' w', OwI w' D A' (n + m) c' (xs ++ ys) → w.grownBy w' (Value.slice A n c).ownBlock → (∀ b o s, A' = some ⟨b, o, s⟩ → (Value.slice A n c).ownBlock = some b ∨ b = w.heap.size) → K (a.put o.dst (.slice A' (n + m) c')) w') : o.wp P a w K Q := by
  rcases Nat.eq_zero_or_pos m with h0 | h0
  · subst h0
    have hys : ys = [] := List.length_eq_zero_iff.1 hb.len
    subst hys
    have hr : ∀ ty, (Builtin.append_ #[t, t] ty #[.slice A n c, .slice B 0 d]).run P w = .ok (.slice A n c) w := by
      intro ty
      cases A <;> cases B <;> simp [Builtin.append_, run_underlying ht, sizeOf, typeInfo, hi, hnc, storeCells, loadCells, Builtin.lenOf, Builtin.firstCells, loadCellsFrom, storeCells]
    unfold Oper.wp execOp
    simp only [ho, resolve, invoke, builtin, Sem.run_bind, Sem.run_pure, Result.andThen_ok, List.map_toArray, List.map_cons, List.map_nil, hs, hx, hr]
    exact hK A c w (by simpa using h) (World.grownBy.refl _ _) (fun b o s e => by subst e; exact .inl rfl)
  · obtain ⟨b, q, rfl, hc⟩ := hb.2 h0
    refine wp_append_lies w s x t ho D 2 i (.int .i64 0) 1 8 ht hi hz hsize hby rfl (by decide) _ n _ hs h.2 ⟨b, q, none⟩ m d (ys.map (Value.int .i64)) hx (by simp [hb.len]) (fun j u hu => ?_) (fun u hu => ?_) h0 (by unfold maxLen; omega) (by omega) hD _ rfl (fun g cap w' h2 h3 h4 h5 => ?_)
    · rw [List.getElem?_map] at hu
      obtain ⟨y, hy, rfl⟩ := Option.map_eq_some_iff.1 hu
      have : (⟨b, q, none⟩ : Addr).add j = ⟨b, q + j, none⟩ := by unfold Addr.add; split <;> simp_all
      rw [this]; exact hc j y hy
    · obtain ⟨y, _, rfl⟩ := List.mem_map.1 hu; rfl
    · exact hK _ cap w' ⟨hnm, by rw [List.map_append]; exact h2⟩ h3 (fun b o s e => by cases e; exact h4)
theorem OwI.none0 {w : World} {D : Nat} (hD : D ≤ w.heap.size) : OwI (w.alloc (.cells #[] 2)) D (some ⟨w.heap.size, 0, none⟩) 0 0 [] :=
  ⟨by omega, World.ownsRow_made w #[] 0 hD (by decide) rfl⟩
theorem wp_append_new {P : Program} {w : World} {o : Oper} {a : Act} {K : Act → World → Prop} {Q : Exit → Act → World → Prop} (s x : Operand) (t : TypeId)
    (ho : o.op = .call { callee := .builtin .append, args := #[s, x], argTypes := #[t, t] }) (i : TypeInfo) (ht : P.underlying t = some (.slice 2)) (hi : P.info? 2 = some i) (hz : i.zero = some (.int .i64 0))
    (hsize : i.size = 1) (hby : i.bytes = 8) {D m d g : Nat} {B : Option Addr} {ys : List Int} (hs : a.eval s = .slice (some ⟨g, 0, none⟩) 0 0) (h : OwI w D (some ⟨g, 0, none⟩) 0 0 []) (hx : a.eval x = .slice B m d) (hb : RI w B m ys) (hD : D ≤ w.heap.size)
    (hK : ∀ A' c' w', OwI w' D A' m c' ys → w.grownBy w' (some g) → (∀ b o s, A' = some ⟨b, o, s⟩ → b = g ∨ b = w.heap.size) → K (a.put o.dst (.slice A' m c')) w') : o.wp P a w K Q := by
  refine wp_append_ints s x t ho i ht hi hz hsize hby hs h hx hb (by have := hb.le; omega) hD (Nat.le_refl _) fun A' c' w' h1 h2 h3 => ?_
  rw [Nat.zero_add] at h1 ⊢
  exact hK A' c' w' (by simpa using h1) h2 fun b o s e => (h3 b o s e).imp (fun e => by cases e; rfl) id
end Go.Proofs.Ytdlgjhngndpgoaa
namespace Go.Proofs.Ytdlgjhngndpgoaa
open Go.RowKit
set_option linter.unusedSimpArgs false
set_option linter.unusedVariables false
theorem wpList_append_new {P : Program} {w : World} {ops : Array Oper} {rest : List Oper} {o : Oper} {a : Act} {Q : Exit → Act → World → Prop} (hgd : o.guard = none) (s x : Operand) (t : TypeId)
    (ho : o.op = .call { callee := .builtin .append, args := #[s, x], argTypes := #[t, t] }) (i : TypeInfo) (ht : P.underlying t = some (.slice 2)) (hi : P.info? 2 = some i) (hz : i.zero = some (.int .i64 0))
    (hsize : i.size = 1) (hby : i.bytes = 8) {D m d g : Nat} {B : Option Addr} {ys : List Int} (hs : a.eval s = .slice (some ⟨g, 0, none⟩) 0 0) (h : OwI w D (some ⟨g, 0, none⟩) 0 0 []) (hx : a.eval x = .slice B m d) (hb : RI w B m ys) (hD : D ≤ w.heap.size)
    (hK : ∀ A' c' w', OwI w' D A' m c' ys → w.grownBy w' (some g) → (∀ b o s, A' = some ⟨b, o, s⟩ → b = g ∨ b = w.heap.size) → wpList P ops Q rest (a.put o.dst (.slice A' m c')) w') : wpList P ops Q (o :: rest) a w :=
  wpList_plain hgd fun _ hk => wp_append_new s x t ho i ht hi hz hsize hby hs h hx hb hD fun A' c' w' h1 h2 h3 => hk _ _ (hK A' c' w' h1 h2 h3)
theorem wpList_append_ints {P : Program} {w : World} {ops : Array Oper} {rest : List Oper} {o : Oper} {a : Act} {Q : Exit → Act → World → Prop} (hgd : o.guard = none) (s x : Operand) (t : TypeId)
    (ho : o.op = .call { callee := .builtin .append, args := #[s, x], argTypes := #[t, t] }) (i : TypeInfo) (ht : P.underlying t = some (.slice 2)) (hi : P.info? 2 = some i) (hz : i.zero = some (.int .i64 0))
    (hsize : i.size = 1) (hby : i.bytes = 8) {D n c m d : Nat} {A B : Option Addr} {xs ys : List Int} (hs : a.eval s = .slice A n c) (h : OwI w D A n c xs) (hx : a.eval x = .slice B m d) (hb : RI w B m ys) (hnm : n + m ≤ 4194304) (hD : D ≤ w.heap.size) (hnc : n ≤ c)
    (hK : ∀ A' c' w', OwI w' D A' (n + m) c' (xs ++ ys) → w.grownBy w' (Value.slice A n c).ownBlock → (∀ b o s, A' = some ⟨b, o, s⟩ → (Value.slice A n c).ownBlock = some b ∨ b = w.heap.size) → wpList P ops Q rest (a.put o.dst (.slice A' (n + m) c')) w') : wpList P ops Q (o :: rest) a w :=
  wpList_plain hgd fun _ hk => wp_append_ints s x t ho i ht hi hz hsize hby hs h hx hb hnm hD hnc fun A' c' w' h1 h2 h3 => hk _ _ (hK A' c' w' h1 h2 h3)
set_option maxRecDepth 100000 in
set_option maxHeartbeats 1000000 in
theorem c_l1Copy {A : Option Addr} {n c : Nat} {xs : List Int} {w : World} (h0 : RI w A n xs) : Calls Try.prog 107 #[.slice A n c] w (NewI w xs) := by
  have HA := Lib.hid h0
  obtain ⟨i0, hii, hiz, his, hib⟩ := info_parts int64_info
  clear h0
  go_enter Try.func107, Try.ntmps107
  go_wp2_with (at_builtin; go_loud (refine wpList_append_new rfl (.tmp 3) (.tmp 4) 27 rfl i0 Try.underlying27 hii hiz his hib (D := w.heap.size) rfl (OwI.none0 (Nat.le_refl _)) rfl (RI.ext HA.out (by exact extX)) (by go_size) ?_))
  intro A2 c2 w2 hO hg hat
  have HO := Lib.hid hO
  have hE : Ext w w2 := Ext.grown ((Ext.refl w).alloc _) hg (fun k hk => by cases hk; exact Nat.le_refl _)
  clear hO hg hat
  go_wp2
  go_ret
  exact ⟨A2, n, c2, rfl, HO.out, hE⟩
set_option maxRecDepth 100000 in
set_option maxHeartbeats 1000000 in
theorem c_clone {A : Option Addr} {n c : Nat} {xs : List Int} {w : World} (h0 : RI w A n xs) : Calls Try.prog 33 #[.slice A n c] w (NewI w xs) := by
  have hn := h0.le
  cases A with
  | none =>
    have hz : n = 0 := by
      rcases Nat.eq_zero_or_pos n with h | h
      · exact h
      · obtain ⟨b, o, e, _⟩ := h0.2 h; cases e
    have hx : xs = [] := List.length_eq_zero_iff.1 (by rw [h0.len, hz])
    subst hx
    subst hz
    have hnil : ∀ w : World, (binOp .eql 27 (.slice none 0 c) (.slice none 0 0)).run Try.prog w = .ok (.bool true) w := fun w => run_eql_slice_nil w _ _ none 0 c Try.underlying27
    go_enter Try.func33, Try.ntmps33
    go_wp2
    go_ret
    exact ⟨none, 0, 0, rfl, ⟨by omega, World.ownsRow_nil _ _ _ _⟩, Ext.refl _⟩
  | some p =>
    have HA := Lib.hid h0
    obtain ⟨i0, hii, hiz, his, hib⟩ := info_parts int64_info
    have hnil : ∀ w : World, (binOp .eql 27 (.slice (some p) n c) (.slice none 0 0)).run Try.prog w = .ok (.bool false) w := fun w => run_eql_slice_nil w _ _ (some p) n c Try.underlying27
    clear h0
    go_enter Try.func33, Try.ntmps33
    go_wp2_with (at_builtin; go_loud (refine wpList_append_new rfl (.tmp 5) (.tmp 6) 27 rfl i0 Try.underlying27 hii hiz his hib (D := w.heap.size) rfl (OwI.none0 (Nat.le_refl _)) rfl (RI.ext HA.out (by exact extX)) (by go_size) ?_))
    intro A2 c2 w2 hO hg hat
    have HO := Lib.hid hO
    have hE : Ext w w2 := Ext.grown ((Ext.refl w).alloc _) hg (fun k hk => by cases hk; exact Nat.le_refl _)
    clear hO hg hat
    go_wp2
    go_ret
    exact ⟨A2, n, c2, rfl, HO.out, hE⟩
end Go.Proofs.Ytdlgjhngndpgoaa
namespace Go.Proofs.Ytdlgjhngndpgoaa
open Go.RowKit
set_option linter.unusedSimpArgs false
set_option linter.unusedVariables false
theorem ownsRow_putRowAt {w : World} {base : Nat} {e : TypeId} {g n cap q off : Nat} {zs ys : List Int} (h : w.ownsRow base e 1 (.slice (some ⟨g, 0, none⟩) n cap) n (zs.map (Value.int .i64))) (hy : off + ys.length = n) :
    (Go.Sort.putRow (Value.int .i64) (Go.Sort.ahead w q) g off ys.toArray).ownsRow base e 1 (.slice (some ⟨g, 0, none⟩) n cap) n ((zs.take off ++ ys).map (Value.int .i64)) := by
  have hzl : zs.length = n := by simpa using h.1
  rcases h.2 with ⟨e0, _⟩ | ⟨g', cap', cur, e0, hb, hg, hn, hm, hs, ht⟩
  · cases e0
  · injection e0 with e1 _ e3
    injection e1 with e1
    injection e1 with e1
    subst e1; subst e3
    refine ⟨by simp; omega, .inr ⟨g, cap, Go.Sort.putCells (Value.int .i64) off ys.toArray cur, rfl, hb, ?_, by omega, hm, by simpa [Go.Sort.putCells] using hs, ?_⟩⟩
    · simp [Go.Sort.putRow, Go.Sort.mapBlock, Go.Sort.ahead, Array.getElem?_modify, hg, Go.Sort.onCells]
    · apply List.ext_getElem?
      intro j
      have htj : (cur.toList.take (n * 1))[j]? = (zs.map (Value.int .i64))[j]? := by rw [ht]
      rw [List.getElem?_take, Nat.mul_one, Array.getElem?_toList] at htj
      rw [List.getElem?_take, Nat.mul_one, Array.getElem?_toList, List.getElem?_map]
      by_cases hj : j < n
      · have hjc : j < cur.size := by omega
        rw [if_pos hj] at htj ⊢
        rw [Array.getElem?_eq_getElem hjc, List.getElem?_map] at htj
        simp only [Go.Sort.putCells, Array.getElem?_mapIdx, Array.getElem?_eq_getElem hjc, Option.map_some]
        by_cases hjo : off ≤ j
        · rw [if_pos ⟨hjo, by simp; omega⟩, List.getElem?_append_right (by rw [List.length_take]; omega), List.length_take, Nat.min_eq_left (by omega), List.getElem?_eq_getElem (by omega)]
          simp [getElem!_pos, show j - off < ys.length by omega]
        · rw [if_neg (fun h => hjo h.1), htj, List.getElem?_append_left (by rw [List.length_take]; omega), List.getElem?_take, if_pos (by omega)]
      · rw [if_neg hj, List.getElem?_eq_none (by rw [List.length_append, List.length_take]; omega)]; rfl
theorem below_putRowAt {B : Nat} {w : World} {g q off : Nat} {d : Array Int} (hg : B ≤ g) : Below B w (Go.Sort.putRow (Value.int .i64) (Go.Sort.ahead w q) g off d) :=
  ⟨rfl, rfl, rfl, by simp [Go.Sort.putRow, Go.Sort.mapBlock, Go.Sort.ahead], fun k hk => by
    simp [Go.Sort.putRow, Go.Sort.mapBlock, Go.Sort.ahead, Array.getElem?_modify, show g ≠ k by omega]⟩
theorem below_growS {B : Nat} {w : World} (os : Array Obj) (hB : B ≤ w.heap.size) : Below B w (Go.Sort.grow w os) :=
  ⟨rfl, rfl, rfl, by simp, fun k hk => by
    unfold Go.Sort.grow
    simp [Array.getElem?_append, show k < w.heap.size by omega]⟩
def lay5_ren : Go.Shelf.Ren := ⟨fun | 5 => 34 | 8 => 63 | 7 => 62 | 19 => 90 | 20 => 91 | 10 => 81 | 11 => 82 | 12 => 83 | 13 => 84 | 14 => 85 | 15 => 86 | 16 => 87 | 17 => 88 | 18 => 89 | 30 => 100 | 31 => 101 | 32 => 102 | 33 => 103 | 34 => 104 | 35 => 105 | 40 => 112 | n => n, fun | 23 => 27 | 25 => 2 | 3 => 3 | 32 => 76 | 22 => 27 | 0 => 0 | 44 => 118 | 46 => 26 | 4 => 4 | 36 => 110 | 35 => 109 | 41 => 115 | 5 => 5 | 9 => 9 | 53 => 130 | 57 => 134 | 63 => 140 | 64 => 141 | n => n, fun n => n⟩
theorem lay5 : SlLaysM.n5 Try.prog lay5_ren := { mixed := by kernel_rfl, f5 := ⟨Try.f34.name, by decide, Try.func34.trans (congrArg some (by kernel_rfl))⟩, f7 := ⟨Try.f62.name, by decide, Try.func62.trans (congrArg some (by kernel_rfl))⟩, f8 := Try.func63.trans (congrArg some (by kernel_rfl)), f10 := ⟨Try.f81.name, by decide, Try.func81.trans (congrArg some (by kernel_rfl))⟩, f11 := ⟨Try.f82.name, by decide, Try.func82.trans (congrArg some (by kernel_rfl))⟩, f12 := ⟨Try.f83.name, by decide, Try.func83.trans (congrArg some (by kernel_rfl))⟩, f13 := ⟨Try.f84.name, by decide, Try.func84.trans (congrArg some (by kernel_rfl))⟩, f14 := ⟨Try.f85.name, by decide, Try.func85.trans (congrArg some (by kernel_rfl))⟩, f15 := ⟨Try.f86.name, by decide, Try.func86.trans (congrArg some (by kernel_rfl))⟩, f16 := ⟨Try.f87.name, by decide, Try.func87.trans (congrArg some (by kernel_rfl))⟩, f17 := ⟨Try.f88.name, by decide, Try.func88.trans (congrArg some (by kernel_rfl))⟩, f18 := ⟨Try.f89.name, by decide, Try.func89.trans (congrArg some (by kernel_rfl))⟩, f19 := Try.func90.trans (congrArg some (by kernel_rfl)), f20 := Try.func91.trans (congrArg some (by kernel_rfl)), f30 := ⟨Try.f100.name, by decide, Try.func100.trans (congrArg some (by kernel_rfl))⟩, f31 := Try.func101.trans (congrArg some (by kernel_rfl)), f32 := Try.func102.trans (congrArg some (by kernel_rfl)), f33 := ⟨Try.f103.name, by decide, Try.func103.trans (congrArg some (by kernel_rfl))⟩, f34 := ⟨Try.f104.name, by decide, Try.func104.trans (congrArg some (by kernel_rfl))⟩, f35 := ⟨Try.f105.name, by decide, Try.func105.trans (congrArg some (by kernel_rfl))⟩, f40 := ⟨Try.f112.name, by decide, Try.func112.trans (congrArg some (by kernel_rfl))⟩, t0 := Try.underlying0, a0 := Try.isAgg0, z0 := Try.sizeOf0, v0 := Try.zeroValue0, t3 := Try.underlying3, a3 := Try.isAgg3, z3 := Try.sizeOf3, v3 := Try.zeroValue3, t4 := Try.underlying4, a4 := Try.isAgg4, z4 := Try.sizeOf4, v4 := Try.zeroValue4, t5 := Try.underlying5, a5 := Try.isAgg5, z5 := Try.sizeOf5, v5 := Try.zeroValue5, t9 := Try.underlying9, a9 := Try.isAgg9, z9 := Try.sizeOf9, v9 := Try.zeroValue9, t22 := Try.underlying27, a22 := Try.isAgg27, z22 := Try.sizeOf27, v22 := Try.zeroValue27, t23 := Try.underlying27, a23 := Try.isAgg27, z23 := Try.sizeOf27, v23 := Try.zeroValue27, t25 := Try.underlying2, a25 := Try.isAgg2, z25 := Try.sizeOf2, v25 := Try.zeroValue2, t32 := Try.underlying76, a32 := Try.isAgg76, z32 := Try.sizeOf76, v32 := Try.zeroValue76, t35 := Try.underlying109, a35 := Try.isAgg109, z35 := Try.sizeOf109, v35 := Try.zeroValue109, t36 := Try.underlying110, a36 := Try.isAgg110, z36 := Try.sizeOf110, v36 := Try.zeroValue110, t41 := Try.underlying115, a41 := Try.isAgg115, z41 := Try.sizeOf115, v41 := Try.zeroValue115, t44 := Try.underlying118, a44 := Try.isAgg118, z44 := Try.sizeOf118, v44 := Try.zeroValue118, t46 := Try.underlying26, a46 := Try.isAgg26, z46 := Try.sizeOf26, v46 := Try.zeroValue26, t53 := Try.underlying130, a53 := Try.isAgg130, z53 := Try.sizeOf130, v53 := Try.zeroValue130, t57 := Try.underlying134, a57 := Try.isAgg134, z57 := Try.sizeOf134, v57 := Try.zeroValue134, t63 := Try.underlying140, a63 := Try.isAgg140, z63 := Try.sizeOf140, v63 := Try.zeroValue140, t64 := Try.underlying141, a64 := Try.isAgg141, z64 := Try.sizeOf141, v64 := Try.zeroValue141 }
def srt (xs : List Int) : List Int := xs.mergeSort fun x y => decide (x ≤ y)
theorem c_sortI {B n c : Nat} {A : Option Addr} {xs : List Int} {w : World} (h : OwI w B A n c xs) (hB : B ≤ w.heap.size) :
    Calls Try.prog 34 #[.slice A n c] w fun e w' => e = .returned (.tuple #[]) ∧ OwI w' B A n c (srt xs) ∧ Below B w w' := by
  have hl := h.len
  rcases Nat.eq_zero_or_pos n with h0 | h0
  · subst h0
    have hx : xs = [] := List.length_eq_zero_iff.1 hl
    subst hx
    refine (AnyM.slices_Sort_int_none lay5 A c w).mono ?_
    rintro e w' ⟨rfl, rfl⟩
    exact ⟨rfl, by simpa [srt] using h, Below.refl _ _⟩
  · obtain ⟨g, cap, hv, hg, hgl, _, _, _, hH⟩ := Go.Lib.holds_of_ownsRow (enc := Value.int .i64) h.2 (by rintro e; cases e; omega)
    cases hv
    subst hl
    refine (AnyM.slices_Sort_int lay5 g 0 c xs w hH hgl (by have := h.1; omega)).mono ?_
    rintro e w' ⟨rfl, q, os, rfl⟩
    have hs : (srt xs).length = xs.length := by unfold srt; exact List.length_mergeSort xs
    have h1 := ownsRow_putRowAt (q := q) (off := 0) (ys := srt xs) h.2 (by omega)
    rw [List.take_zero, List.nil_append] at h1
    have hsz : (Go.Sort.putRow (Value.int .i64) (Go.Sort.ahead w q) g 0 (srt xs).toArray).heap.size = w.heap.size := by simp
    rw [show (xs.mergeSort fun x y => decide (x ≤ y)) = srt xs from rfl]
    refine ⟨rfl, ?_, ?_⟩
    · refine OwI.heap ⟨h.1, h1⟩ fun g' e => ?_
      cases e
      unfold Go.Sort.grow
      simp [Array.getElem?_append, hgl]
    · exact (below_putRowAt hg).trans (below_growS os (by rw [hsz]; exact hB))
def lay35_ren : Go.Shelf.Ren := ⟨fun | 35 => 64 | n => n, fun | 22 => 27 | 23 => 2 | 3 => 3 | 4 => 4 | 0 => 0 | n => n, fun n => n⟩
theorem lay35 : SlLaysN.n35 Try.prog lay35_ren := { mixed := by kernel_rfl, f35 := ⟨Try.f64.name, by decide, Try.func64.trans (congrArg some (by kernel_rfl))⟩, t0 := Try.underlying0, a0 := Try.isAgg0, z0 := Try.sizeOf0, v0 := Try.zeroValue0, t3 := Try.underlying3, a3 := Try.isAgg3, z3 := Try.sizeOf3, v3 := Try.zeroValue3, t4 := Try.underlying4, a4 := Try.isAgg4, z4 := Try.sizeOf4, v4 := Try.zeroValue4, t22 := Try.underlying27, a22 := Try.isAgg27, z22 := Try.sizeOf27, v22 := Try.zeroValue27, t23 := Try.underlying2, a23 := Try.isAgg2, z23 := Try.sizeOf2, v23 := Try.zeroValue2 }
theorem c_reverseI {g n c B k m cap : Nat} {xs : List Int} {w : World} (h : OwI w B (some ⟨g, 0, none⟩) n c xs) (hk : k ≤ n) (hm : m = n - k) (hg : B ≤ g) :
    Calls Try.prog 64 #[.slice (some ⟨g, k, none⟩) m cap] w fun e w' => e = .returned (.tuple #[]) ∧ OwI w' B (some ⟨g, 0, none⟩) n c (xs.take k ++ (xs.drop k).reverse) ∧ Below B w w' := by
  have hl := h.len
  have hd : (xs.drop k).length = m := by rw [List.length_drop]; omega
  subst hd
  have hH : Go.Sort.Holds (Value.int .i64) w g k (xs.drop k).toArray := fun j hj => by
    have hj' : j < xs.length - k := by simpa using hj
    obtain ⟨x, hx, hc, hf⟩ := OwI.at_ h (show k + j < n by omega)
    refine ⟨?_, hf⟩
    rw [hc]
    have e : (xs.drop k).toArray[j]! = x := by
      rw [getElem!_pos (xs.drop k).toArray j hj]
      simpa using (List.getElem?_eq_some_iff.1 hx).2
    rw [e]
  refine (AnyG.slices_Reverse_int lay35 g k cap (xs.drop k) w hH (by rw [List.length_drop]; have := h.1; omega)).mono ?_
  rintro e w' ⟨rfl, q, rfl⟩
  have h1 := ownsRow_putRowAt (q := q) (off := k) (ys := (xs.drop k).reverse) h.2 (by simp; omega)
  exact ⟨rfl, ⟨h.1, h1⟩, below_putRowAt hg⟩
set_option maxRecDepth 100000 in
set_option maxHeartbeats 1000000 in
theorem c_firstPerm {n : Nat} {w : World} (hn : n ≤ 1000) : Calls Try.prog 36 #[.int .i64 (n : Int)] w (NewI w (upI 0 n)) := by
  obtain ⟨i0, hi0, hz0, hz1, hz2⟩ := info_parts int64_info
  go_enter Try.func36, Try.ntmps36
  go_wp2_with (at_make; refine wpList_make_full _ rfl _ _ 27 rfl w.heap.size 2 i0 _ 1 Try.underlying27 hi0 hz0 hz1 _ _ _ _ n rfl rfl rfl rfl (by rw [hz2]; omega) (by simp only [maxLen]; omega) (Nat.le_refl _) ?_)
  intro w1 hown0 hg
  rw [madeInts] at hown0
  have hown := OwI.made hown0 (by omega)
  have hE : Ext w w1 := Ext.grown (Ext.refl _) hg (fun k hk => by cases hk)
  go_wp2
  go_loopw [9] (fun i wr => ∃ k : Nat, i = .int .i64 k ∧ k ≤ n ∧ Hid (OwI wr w.heap.size (some ⟨w.heap.size, 0, none⟩) n n ((upI 0 n).take k ++ List.replicate (n - k) 0)) ∧ Ext w wr) (fun i _ => n - (intOf i).toNat)
  case atStart => exact ⟨0, rfl, Nat.zero_le _, Lib.hid (by rw [List.take_zero, List.nil_append, Nat.sub_zero]; exact hown), hE⟩
  case round =>
    obtain ⟨k, rfl, hk, hO, hw⟩ := hrel
    by_cases hlt : k < n
    · obtain ⟨z, hz, hcz, hfz⟩ := OwI.at_ hO.out hlt
      have hx := upI_get n 0 k hlt
      rw [Int.zero_add] at hx
      have HN := Lib.hid (show OwI (wr.setCell ⟨w.heap.size, k, none⟩ (.int .i64 (k : Int))) w.heap.size (some ⟨w.heap.size, 0, none⟩) n n ((upI 0 n).take (k + 1) ++ List.replicate (n - (k + 1)) 0) by
        have := OwI.set hO.out k (k : Int)
        rw [set_take (upI_len 0 n) hx] at this
        exact this)
      have hlt' : (k : Int) < (n : Int) := by omega
      clear hz hx
      go_wp2
      go_roundw
      case rel => exact ⟨k + 1, by go_num, by omega, HN, Ext.set hw (Nat.le_refl _) _⟩
      case measure => simp only [intOf]; omega
    · go_wp2
      go_ret
      have hkn : k = n := by omega
      subst hkn
      have e : (upI 0 k).take k ++ List.replicate (k - k) 0 = upI 0 k := by rw [Nat.sub_self, List.take_of_length_le (by rw [upI_len]; exact Nat.le_refl _)]; simp
      have hO2 := hO.out
      rw [e] at hO2
      exact ⟨_, _, _, rfl, hO2, hw⟩
set_option maxRecDepth 100000 in
set_option maxHeartbeats 4000000 in
theorem c_nextRank {A : Option Addr} {n c B : Nat} {xs : List Int} {w : World} (hok : permOk xs = true) (h : OwI w B A n c xs) (hB : B ≤ w.heap.size) :
    Calls Try.prog 37 #[.slice A n c] w fun e w' => e = .returned (.bool (nextB xs)) ∧ Below B w w' ∧ (nextB xs = true → OwI w' B A n c (nextV xs)) := by
  have hl := h.len
  have hn8 : n ≤ 8 := by rw [← hl]; exact (permOk_iff.1 hok).2.2
  have HO := Lib.hid h
  have HL := Lib.hid hl
  have HOK := Lib.hid hok
  have hcap := h.cap
  clear h hl hok
  go_enter Try.func37, Try.ntmps37
  go_wp2_with fail
  go_loopw [3] (fun iv wr => ∃ (z : Int) (k : Nat), iv = .int .i64 z ∧ (z = (k : Int) - 1 ∨ z = -2 ∧ k = 0) ∧ k ≤ n - 1 ∧ Hid (upGo xs k = upAt xs ∧ fallsFrom xs k) ∧ Ext w wr) (fun iv _ => (intOf iv + 2).toNat)
  case atStart => exact ⟨(n : Int) - 2, n - 1, by go_num, by omega, by omega, Lib.hid ⟨by rw [← HL.out]; rfl, falls_last _ _ (by rw [HL.out]; omega)⟩, by exact extX⟩
  case round =>
    obtain ⟨z, k, rfl, hz, hk, hST, hE⟩ := hrel
    rcases Nat.eq_zero_or_pos k with hk0 | hk0
    · subst hk0
      have hzn : z < 0 := by omega
      have hzb : decide (0 ≤ z) = false := by simp; omega
      have HU := Lib.hid (next_none (xs := xs) hST.out.1.symm)
      go_wp2_with fail
      go_quiet (fail)
      go_wp2
      go_ret
      exact ⟨ret_bool HU.out.2.symm, Below.mono (show Ext w _ by exact extX) hB, fun h => by rw [HU.out.2] at h; cases h⟩
    · obtain ⟨p, rfl⟩ : ∃ p, k = p + 1 := ⟨k - 1, by omega⟩
      have hzp : z = (p : Int) := by omega
      subst hzp
      have hp1 : p + 1 < n := by omega
      obtain ⟨g, rfl, hgB, _⟩ : ∃ g, A = some ⟨g, 0, none⟩ ∧ B ≤ g ∧ g < w.heap.size := by
        rcases HO.out.form with ⟨_, h0, _⟩ | h
        · omega
        · exact h
      obtain ⟨x, hx, hcx, _⟩ := OwI.at_ (HO.out.ext hE) (show p < n by omega)
      obtain ⟨y, hy, hcy, _⟩ := OwI.at_ (HO.out.ext hE) hp1
      have HX := Lib.hid hx
      have HY := Lib.hid hy
      have hpz : (0 : Int) ≤ (p : Int) := by omega
      have hpd : decide ((0 : Int) ≤ (p : Int)) = true := by simp
      have hpi : (p : Int) < (n : Int) := by omega
      have hpi1 : (p : Int) + 1 < (n : Int) := by omega
      clear hx hy
      by_cases hxy : y < x
      · have hd2 : decide (y < x) = true := by simpa using hxy
        have HN := Lib.hid (show upGo xs p = upAt xs ∧ fallsFrom xs p from ⟨by rw [← hST.out.1, upGo_go HX.out HY.out hxy], falls_down hST.out.2 HX.out HY.out hxy⟩)
        go_wp2_with fail
        go_quiet (fail)
        go_wp2
        go_roundw
        case rel => exact ⟨(p : Int) - 1, p, by go_num, by omega, by omega, HN, by exact extX⟩
        case measure => simp only [intOf]; omega
      · have hd2 : decide (y < x) = false := by simpa using hxy
        have HUP := Lib.hid (show upAt xs = some p by rw [← hST.out.1, upGo_stop HX.out HY.out hxy])
        go_wp2_with fail
        go_quiet (fail)
        obtain ⟨k0, a0, b0, hN⟩ := nextI HOK.out HUP.out
        have hik := hN.ik
        have hkn : k0 < n := by have := (List.getElem?_eq_some_iff.1 hN.hb).1; rw [HL.out] at this; exact this
        have ha0 : x = a0 := by have := hN.ha; rw [HX.out] at this; exact Option.some.inj this
        subst ha0
        have HNX := Lib.hid hN
        have HNV := Lib.hid (nextV_some HOK.out HUP.out hN)
        have HNB := Lib.hid (nextB_some HOK.out HUP.out)
        clear hN
        go_wp2_with fail
        go_loopw [4] (fun kv wr => ∃ q : Nat, kv = .int .i64 q ∧ k0 ≤ q ∧ q < n ∧ Ext w wr) (fun kv _ => (intOf kv).toNat)
        case atStart => exact ⟨n - 1, by go_num, by omega, by omega, by exact extX⟩
        case round =>
          obtain ⟨q, rfl, hkq, hqn, hE2⟩ := hrel
          obtain ⟨u, hu, hcu, hfu⟩ := OwI.at_ (HO.out.ext hE2) hqn
          obtain ⟨x', hx', hcx', hfx'⟩ := OwI.at_ (HO.out.ext hE2) (show p < n by omega)
          rw [HX.out] at hx'; cases hx'
          have hq0 : (0 : Int) ≤ (q : Int) := by omega
          have hqi : (q : Int) < (n : Int) := by omega
          rcases Nat.lt_or_ge k0 q with hlt | hge
          · have hux : u < x := HNX.out.low q u hlt hu
            have hud : decide (u < x) = true := by simpa using hux
            clear hu
            go_wp2_with fail
            go_quiet (fail)
            go_wp2
            go_roundw
            case rel => exact ⟨q - 1, by go_num, by omega, by omega, by exact extX⟩
            case measure => simp only [intOf]; omega
          · have hqk : q = k0 := by omega
            subst hqk
            have hub : u = b0 := by have := HNX.out.hb; rw [hu] at this; exact Option.some.inj this
            subst hub
            have hxu := HNX.out.nx.lt
            have hud : decide (u < x) = false := by simp; omega
            have HSW := Lib.hid (nextL_set HX.out hik hu)
            clear hu
            have hpq : ¬ p = q := by omega
            have hqp : ¬ q = p := by omega
            have HOr := Lib.hid (HO.out.ext hE2)
            go_wp2_with fail
            go_quiet (fail)
            go_wp2_with fail
            go_region_o
            have HS := Lib.hid (show OwI (((wr.drewN (nq + 1)).setCell ⟨g, p, none⟩ (.int .i64 u)).setCell ⟨g, q, none⟩ (.int .i64 x)) B (some ⟨g, 0, none⟩) n c ((xs.set p u).set q x) from OwI.set (OwI.set (OwI.drewN HOr.out (nq + 1)) p u) q x)
            have hBS : Below B w (((wr.drewN (nq + 1)).setCell ⟨g, p, none⟩ (.int .i64 u)).setCell ⟨g, q, none⟩ (.int .i64 x)) := Below.setCell (Below.setCell (Below.mono (show Ext w _ from hE2.drewN _) hB) hgB _) hgB _
            obtain ⟨ws, hws⟩ : ∃ ws, ws = ((wr.drewN (nq + 1)).setCell ⟨g, p, none⟩ (.int .i64 u)).setCell ⟨g, q, none⟩ (.int .i64 x) := ⟨_, rfl⟩
            rw [← hws] at HS hBS ⊢
            clear hws
            have hci : ¬ c = p + 1 := by omega
            have hp1c : (p : Int) + 1 ≤ (c : Int) := by omega
            have hp1n : (p : Int) + 1 ≤ (n : Int) := by omega
            go_wp2_with fail
            (with_reducible refine (c_reverseI (k := p + 1) HS.out (by omega) (by omega) hgB).mono ?_)
            rintro e w5 ⟨rfl, hO5, hB5⟩
            have HO5 := Lib.hid hO5
            clear hO5
            go_wp2
            go_ret
            exact ⟨ret_bool HNB.out.symm, hBS.trans hB5, fun _ => by rw [HNV.out, ← HSW.out]; exact HO5.out⟩
theorem c_nextRank2 {A : Option Addr} {n c B : Nat} {xs : List Int} {b : Bool} {w : World} (hb : nextB xs = b) (hok : permOk xs = true) (h : OwI w B A n c xs) (hB : B ≤ w.heap.size) :
    Calls Try.prog 37 #[.slice A n c] w fun e w' => e = .returned (.bool b) ∧ Below B w w' ∧ (b = true → OwI w' B A n c (nextV xs)) := by subst hb; exact c_nextRank hok h hB
theorem c_slicesEqualN {v0 v1 : Value} {xs ys : List Int} {b : Bool} {w : World} (hb : (xs == ys) = b) (h0 : RdI w v0 xs) (h1 : RdI w v1 ys) :
    Calls Try.prog 35 #[v0, v1] w fun e w' => e = .returned (.bool b) ∧ Ext w w' := by subst hb; exact c_slicesEqual h0 h1
theorem nextB_perm {xs : List Int} (h : nextB xs = false) : nextV xs = [] := by
  unfold nextB at h
  cases hp : permOk xs with
  | false => exact (next_bad hp).1
  | true =>
    rw [hp, Bool.true_and] at h
    exact (next_none (Option.not_isSome_iff_eq_none.1 (by rw [h]; decide))).1
def NewNx (w : World) (xs : List Int) (e : Ending) (w' : World) : Prop := ∃ A n c, e = .returned (.tuple #[.slice A n c, .bool (nextB xs)]) ∧ OwI w' w.heap.size A n c (nextV xs) ∧ Ext w w'
theorem NewNx.bad {w w' : World} {xs : List Int} (h : nextB xs = false) (hE : Ext w w') : NewNx w xs (.returned (.tuple #[.slice none 0 0, .bool false])) w' :=
  ⟨none, 0, 0, by rw [h], by rw [nextB_perm h]; exact ⟨by omega, World.ownsRow_nil _ _ _ _⟩, hE⟩
set_option maxRecDepth 100000 in
set_option maxHeartbeats 4000000 in
theorem c_iNextRank {v0 : Value} {xs : List Int} {w : World} (h0 : RdI w v0 xs) : Calls Try.prog 14 #[v0] w (NewNx w xs) := by
  obtain ⟨A, n, c, rfl, ha⟩ := h0
  have hn := ha.le
  have HA := Lib.hid ha
  have HL := Lib.hid ha.len
  clear ha
  go_enter Try.func14, Try.ntmps14
  go_wp2_with fail
  (with_reducible refine (c_clone HA.out).mono ?_)
  rintro e w1 ⟨A1, n1, c1, rfl, hO1, hE1⟩
  have hn1 : n1 = n := by rw [← hO1.len, HL.out]
  subst hn1
  go_wp2_with fail
  (with_reducible refine (c_sortI hO1 hE1.size).mono ?_)
  rintro e w2 ⟨rfl, hO2, hB2⟩
  have HO2 := Lib.hid hO2
  have hE2 : Ext w w2 := Below.trans hE1 hB2
  clear hO1 hE1 hB2 hO2
  by_cases h8 : 8 < n1
  · have HBAD := Lib.hid (next_bad (permOk_big (by rw [HL.out]; exact h8)))
    have h8i : (8 : Int) < (n1 : Int) := by omega
    go_wp2
    refine bodyPost_ret (v := .tuple #[.slice none 0 0, .bool false]) (by simp [results, Try.results14, go_sem]) rfl ?_
    exact NewNx.bad HBAD.out.2 hE2
  · have h8i : ¬ (8 : Int) < (n1 : Int) := by omega
    go_wp2_with fail
    (with_reducible refine (c_firstPerm (n := n1) (by omega)).mono ?_)
    rintro e w3 ⟨A3, n3, c3, rfl, hO3, hE3⟩
    have HR3 := Lib.hid hO3.ri
    have hE23 : Ext w w3 := Ext.trans hE2 hE3
    obtain ⟨b, hb⟩ : ∃ b, permOk xs = b := ⟨_, rfl⟩
    have HEQ := Lib.hid (show (srt xs == upI 0 n1) = b by rw [← hb, ← HL.out]; exact permOk_sorted (by rw [HL.out]; omega))
    have HB := Lib.hid hb
    clear hb hO3
    go_wp2_with fail
    (with_reducible refine (c_slicesEqualN HEQ.out (RdI.mk (RI.ext HO2.out.ri hE3)) (RdI.mk HR3.out)).mono ?_)
    rintro e w4 ⟨rfl, hE4⟩
    have hE04 : Ext w w4 := Ext.trans hE23 hE4
    cases b with
    | false =>
      have HBAD := Lib.hid (next_bad HB.out)
      go_wp2
      refine bodyPost_ret (v := .tuple #[.slice none 0 0, .bool false]) (by simp [results, Try.results14, go_sem]) rfl ?_
      exact NewNx.bad HBAD.out.2 hE04
    | true =>
      go_wp2_with fail
      (with_reducible refine (c_clone (RI.ext HA.out hE04)).mono ?_)
      rintro e w5 ⟨A5, n5, c5, rfl, hO5, hE5⟩
      have HO5 := Lib.hid (hO5.lower (show w.heap.size ≤ w4.heap.size from sz_of hE04))
      have hE05 : Ext w w5 := Ext.trans hE04 hE5
      have hsz5 := sz_of hE05
      obtain ⟨b2, hb2⟩ : ∃ b, nextB xs = b := ⟨_, rfl⟩
      have HB2 := Lib.hid hb2
      clear hO5 hb2
      go_wp2_with fail
      (with_reducible refine (c_nextRank2 HB2.out HB.out HO5.out hsz5).mono ?_)
      rintro e w6 ⟨rfl, hB6, hO6⟩
      have HO6 := Lib.hid hO6
      have hE06 : Ext w w6 := Below.trans hE05 hB6
      clear hO6
      cases b2 with
      | false =>
        go_wp2
        refine bodyPost_ret (v := .tuple #[.slice none 0 0, .bool false]) (by simp [results, Try.results14, go_sem]) rfl ?_
        exact NewNx.bad HB2.out hE06
      | true =>
        go_wp2
        refine bodyPost_ret (v := .tuple #[.slice A5 n5 c5, .bool true]) (by simp [results, Try.results14, go_sem]) rfl ?_
        exact ⟨_, _, _, by rw [HB2.out], HO6.out trivial, hE06⟩
theorem c_iNextRank' {v0 : Value} {xs oo : List Int} {bb : Bool} {w : World} (hv : oo = nextV xs) (hb : bb = nextB xs) (h0 : RdI w v0 xs) :
    Calls Try.prog 14 #[v0] w fun e w' => ∃ A n c, e = .returned (.tuple #[.slice A n c, .bool bb]) ∧ OwI w' w.heap.size A n c oo ∧ Ext w w' := by
  subst hv hb
  exact c_iNextRank h0
end Go.Proofs.Ytdlgjhngndpgoaa
namespace Go.Proofs.Ytdlgjhngndpgoaa
set_option linter.unusedVariables false
def valR : List Int → Nat
  | [] => 0
  | x :: t => x.toNat * 8 ^ t.length + valR t
theorem valR_lt : ∀ {t : List Int}, (∀ x ∈ t, x < 8) → valR t < 8 ^ t.length
  | [], _ => by simp [valR]
  | x :: t, h => by
    have ih := valR_lt fun y hy => h y (List.mem_cons_of_mem _ hy)
    have hx : x.toNat ≤ 7 := by have := h x List.mem_cons_self; omega
    have h1 : x.toNat * 8 ^ t.length ≤ 7 * 8 ^ t.length := Nat.mul_le_mul_right _ hx
    show x.toNat * 8 ^ t.length + valR t < 8 ^ (t.length + 1)
    rw [Nat.pow_succ]
    omega
theorem valR_append : ∀ (s t : List Int), valR (s ++ t) = valR s * 8 ^ t.length + valR t
  | [], t => by simp [valR]
  | x :: s, t => by
    show x.toNat * 8 ^ (s ++ t).length + valR (s ++ t) = (x.toNat * 8 ^ s.length + valR s) * 8 ^ t.length + valR t
    rw [valR_append s t, List.length_append, Nat.pow_add, Nat.add_mul, Nat.mul_assoc]
    omega
theorem permOk_perm {xs ys : List Int} (h : permOk xs = true) (p : ys.Perm xs) : permOk ys = true := by
  obtain ⟨h1, h2, h3⟩ := permOk_iff.1 h
  have hl := p.length_eq
  exact permOk_iff.2 ⟨p.nodup_iff.2 h1, fun x hx => by rw [hl]; exact h2 x (p.mem_iff.1 hx), by omega⟩
theorem nextV_up {xs : List Int} (hb : nextB xs = true) : permOk (nextV xs) = true ∧ (nextV xs).length = xs.length ∧ valR xs < valR (nextV xs) := by
  unfold nextB at hb
  rw [Bool.and_eq_true] at hb
  obtain ⟨hp, hu⟩ := hb
  obtain ⟨i, hi⟩ := Option.isSome_iff_exists.1 hu
  obtain ⟨k, a, b, hN⟩ := nextI hp hi
  rw [nextV_some hp hi hN]
  obtain ⟨pre, hpre⟩ : ∃ l, l = xs.take i := ⟨_, rfl⟩
  obtain ⟨T1, hT1⟩ : ∃ l, l = (xs.take k).drop (i + 1) := ⟨_, rfl⟩
  obtain ⟨T2, hT2⟩ : ∃ l, l = xs.drop (k + 1) := ⟨_, rfl⟩
  have hx := hN.nx.eq
  have hlt := hN.nx.lt
  rw [← hpre, ← hT1, ← hT2] at hx ⊢
  have hperm : (nextL pre a T1 b T2).Perm xs := by
    rw [hx]
    unfold nextL
    refine List.Perm.append_left pre ?_
    refine (List.Perm.cons b (List.reverse_perm _)).trans ?_
    refine ((List.perm_middle (l₁ := T1) (l₂ := T2) (a := a)).cons b).trans ?_
    refine (List.Perm.swap a b (T1 ++ T2)).trans ?_
    exact ((List.perm_middle (l₁ := T1) (l₂ := T2) (a := b)).symm.cons a)
  obtain ⟨h1, h2, h3⟩ := permOk_iff.1 hp
  refine ⟨permOk_perm hp hperm, hperm.length_eq, ?_⟩
  have ha : 0 ≤ a := (h2 a (by rw [hx]; simp)).1
  have hd : ∀ y ∈ T1 ++ b :: T2, y < 8 := fun y hy => by
    have := (h2 y (by rw [hx]; exact List.mem_append_right _ (List.mem_cons_of_mem _ hy))).2
    omega
  have hv := valR_lt hd
  have hlen : ((T1 ++ a :: T2).reverse).length = (T1 ++ b :: T2).length := by simp; omega
  rw [hx]
  unfold nextL
  rw [valR_append, valR_append]
  show _ + (a.toNat * 8 ^ (T1 ++ b :: T2).length + valR (T1 ++ b :: T2)) < _ + (b.toNat * 8 ^ ((T1 ++ a :: T2).reverse).length + valR _)
  rw [List.length_cons, List.length_cons, hlen]
  have hab : a.toNat + 1 ≤ b.toNat := by omega
  have h5 : (a.toNat + 1) * 8 ^ (T1 ++ b :: T2).length ≤ b.toNat * 8 ^ (T1 ++ b :: T2).length := Nat.mul_le_mul_right _ hab
  rw [Nat.add_mul, Nat.one_mul] at h5
  omega
def muR (xs : List Int) : Nat := 8 ^ xs.length - valR xs
theorem muR_next {xs : List Int} (hb : nextB xs = true) : muR (nextV xs) < muR xs := by
  obtain ⟨h1, h2, h3⟩ := nextV_up hb
  obtain ⟨_, k2, k3⟩ := permOk_iff.1 h1
  have h4 := valR_lt (t := nextV xs) fun x hx => by have := (k2 x hx).2; omega
  unfold muR
  rw [h2] at h4 ⊢
  omega
theorem upI_ok {n : Nat} (h : n ≤ 8) : permOk (upI 0 n) = true := by
  have hl : (upI 0 n).length = n := upI_len 0 n
  refine permOk_iff.2 ⟨?_, fun x hx => ?_, by omega⟩
  · exact (upI_inc 0 n).imp fun h => by omega
  · rw [hl]; have := (upI_mem).1 hx; omega
end Go.Proofs.Ytdlgjhngndpgoaa
