/- Several texts in one: PB, MPoly, MForm, PG, Copy, UseS, NextI, MRk. -/
import Derived.Test.YtibeelcnooelkaaQ12
import Derived.Test.YtibeelcnooelkaaQ10
import Derived.Deep.AppendLies
import Derived.Lib.LazyBuf
import Derived.ArgAppend
import Derived.Test.YtibeelcnooelkaaQ11
import Derived.Test.YtibeelcnooelkaaQ16
import Derived.Lib.OwnBridge
import Derived.Shelf.SortM.Plain
import Derived.Shelf.SortM.SortNone
import Derived.Shelf.SlicesG.Reverse
namespace Go.Proofs.Ytibeelcnooelkaa
open Go.RowKit
set_option linter.unusedSimpArgs false
set_option linter.unusedVariables false
theorem OwI.ob2 {w : World} {D n c : Nat} {A : Option Addr} {xs : List Int} (h : OwI w D A n c xs) : ∀ k, (Value.slice A n c).ownBlock = some k → D ≤ k ∧ k < w.heap.size := by
  intro k hk
  cases A with
  | none => cases hk
  | some p => obtain ⟨g, o, s⟩ := p; cases hk; exact h.bd _ _ _ rfl
section
variable {w1 wr wx : World} {x y : Int} {A : Option Addr} {cA g cap : Nat} {xs : List Int} {o : Obj}
end
end Go.Proofs.Ytibeelcnooelkaa
namespace Go.Proofs.Ytibeelcnooelkaa
structure Pl where
  c : Int
  cf : List Int
end Go.Proofs.Ytibeelcnooelkaa
namespace Go.Proofs.Ytibeelcnooelkaa
def addL : List Int → List Int → Int → List Int
  | as1, [], _ => as1
  | [], b :: bs, m => m * b :: addL [] bs m
  | a :: as1, b :: bs, m => (a + m * b) :: addL as1 bs m
def addP (a b : Pl) (m : Int) : Pl := ⟨a.c + m * b.c, addL a.cf b.cf m⟩
def sumTo (p : Pl) (fs : List Pl) : Nat → Pl
  | 0 => ⟨p.c, []⟩
  | k + 1 => addP (sumTo p fs k) (fs.getD k ⟨0, []⟩) (p.cf.getD k 0)
end Go.Proofs.Ytibeelcnooelkaa
namespace Go.Proofs.Ytibeelcnooelkaa
open Go.RowKit
set_option linter.unusedSimpArgs false
set_option linter.unusedVariables false
section
variable {w1 wr wx : World} {x y : Int} {A : Option Addr} {q cA g cap : Nat} {xs : List Int} {o : Obj}
end
section
variable {w1 wr : World} {q : Nat} {x : Int} {A : Option Addr} {n cA : Nat} {xs : List Int} {u v : Value}
end
theorem wp_append_ints {P : Program} {w : World} {o : Oper} {a : Act} {K : Act → World → Prop} {Q : Exit → Act → World → Prop} (s x : Operand) (t : TypeId)
    (ho : o.op = .call { callee := .builtin .append, args := #[s, x], argTypes := #[t, t] }) (i : TypeInfo) (ht : P.underlying t = some (.slice 2)) (hi : P.info? 2 = some i) (hz : i.zero = some (.int .i64 0))
    (hsize : i.size = 1) (hby : i.bytes = 8) {D n c m d : Nat} {A B : Option Addr} {xs ys : List Int} (hs : a.eval s = .slice A n c) (h : OwI w D A n c xs) (hx : a.eval x = .slice B m d) (hb : RI w B m ys) (hnm : n + m ≤ 4194304) (hD : D ≤ w.heap.size) (hnc : n ≤ c)
    (hK : ∀ A' c' w', OwI w' D A' (n + m) c' (xs ++ ys) → w.grownBy w' (Value.slice A n c).ownBlock → (∀ b o s, A' = some ⟨b, o, s⟩ → (Value.slice A n c).ownBlock = some b ∨ b = w.heap.size) → K (a.put o.dst (.slice A' (n + m) c')) w') : o.wp P a w K Q := by
  rcases Nat.eq_zero_or_pos m with h0 | h0
  · subst h0
    have hys : ys = [] := List.length_eq_zero_iff.1 hb.len
    subst hys
    have hr : ∀ ty, (Builtin.append_ #[t, t] ty #[.slice A n c, .slice B 0 d]).run P w = .ok (.slice A n c) w := by
      intro ty
      cases A <;> cases B <;> simp [Builtin.append_, run_underlying ht, sizeOf, typeInfo, hi, hnc, storeCells, loadCells, Builtin.lenOf, Builtin.firstCells, loadCellsFrom, storeCells]
    unfold Oper.wp execOp
    simp only [ho, resolve, invoke, builtin, Sem.run_bind, Sem.run_pure, Result.andThen_ok, List.map_toArray, List.map_cons, List.map_nil, hs, hx, hr]
    exact hK A c w (by simpa using h) (World.grownBy.refl _ _) (fun b o s e => by subst e; exact .inl rfl)
  · obtain ⟨b, q, rfl, hc⟩ := hb.2 h0
    refine wp_append_lies w s x t ho D 2 i (.int .i64 0) 1 8 ht hi hz hsize hby rfl (by decide) _ n _ hs h.2 ⟨b, q, none⟩ m d (ys.map (Value.int .i64)) hx (by simp [hb.len]) (fun j u hu => ?_) (fun u hu => ?_) h0 (by unfold maxLen; omega) (by omega) hD _ rfl (fun g cap w' h2 h3 h4 h5 => ?_)
    · rw [List.getElem?_map] at hu
      obtain ⟨y, hy, rfl⟩ := Option.map_eq_some_iff.1 hu
      have : (⟨b, q, none⟩ : Addr).add j = ⟨b, q + j, none⟩ := by unfold Addr.add; split <;> simp_all
      rw [this]; exact hc j y hy
    · obtain ⟨y, _, rfl⟩ := List.mem_map.1 hu; rfl
    · exact hK _ cap w' ⟨hnm, by rw [List.map_append]; exact h2⟩ h3 (fun b o s e => by cases e; exact h4)
theorem OwI.none0 {w : World} {D : Nat} (hD : D ≤ w.heap.size) : OwI (w.alloc (.cells #[] 2)) D (some ⟨w.heap.size, 0, none⟩) 0 0 [] :=
  ⟨by omega, World.ownsRow_made w #[] 0 hD (by decide) rfl⟩
theorem wp_append_new {P : Program} {w : World} {o : Oper} {a : Act} {K : Act → World → Prop} {Q : Exit → Act → World → Prop} (s x : Operand) (t : TypeId)
    (ho : o.op = .call { callee := .builtin .append, args := #[s, x], argTypes := #[t, t] }) (i : TypeInfo) (ht : P.underlying t = some (.slice 2)) (hi : P.info? 2 = some i) (hz : i.zero = some (.int .i64 0))
    (hsize : i.size = 1) (hby : i.bytes = 8) {D m d g : Nat} {B : Option Addr} {ys : List Int} (hs : a.eval s = .slice (some ⟨g, 0, none⟩) 0 0) (h : OwI w D (some ⟨g, 0, none⟩) 0 0 []) (hx : a.eval x = .slice B m d) (hb : RI w B m ys) (hD : D ≤ w.heap.size)
    (hK : ∀ A' c' w', OwI w' D A' m c' ys → w.grownBy w' (some g) → (∀ b o s, A' = some ⟨b, o, s⟩ → b = g ∨ b = w.heap.size) → K (a.put o.dst (.slice A' m c')) w') : o.wp P a w K Q := by
  refine wp_append_ints s x t ho i ht hi hz hsize hby hs h hx hb (by have := hb.le; omega) hD (Nat.le_refl _) fun A' c' w' h1 h2 h3 => ?_
  rw [Nat.zero_add] at h1 ⊢
  exact hK A' c' w' (by simpa using h1) h2 fun b o s e => (h3 b o s e).imp (fun e => by cases e; rfl) id
end Go.Proofs.Ytibeelcnooelkaa
namespace Go.Proofs.Ytibeelcnooelkaa
open Go.RowKit
set_option linter.unusedSimpArgs false
set_option linter.unusedVariables false
theorem wpList_append_new {P : Program} {w : World} {ops : Array Oper} {rest : List Oper} {o : Oper} {a : Act} {Q : Exit → Act → World → Prop} (hgd : o.guard = none) (s x : Operand) (t : TypeId)
    (ho : o.op = .call { callee := .builtin .append, args := #[s, x], argTypes := #[t, t] }) (i : TypeInfo) (ht : P.underlying t = some (.slice 2)) (hi : P.info? 2 = some i) (hz : i.zero = some (.int .i64 0))
    (hsize : i.size = 1) (hby : i.bytes = 8) {D m d g : Nat} {B : Option Addr} {ys : List Int} (hs : a.eval s = .slice (some ⟨g, 0, none⟩) 0 0) (h : OwI w D (some ⟨g, 0, none⟩) 0 0 []) (hx : a.eval x = .slice B m d) (hb : RI w B m ys) (hD : D ≤ w.heap.size)
    (hK : ∀ A' c' w', OwI w' D A' m c' ys → w.grownBy w' (some g) → (∀ b o s, A' = some ⟨b, o, s⟩ → b = g ∨ b = w.heap.size) → wpList P ops Q rest (a.put o.dst (.slice A' m c')) w') : wpList P ops Q (o :: rest) a w :=
  wpList_plain hgd fun _ hk => wp_append_new s x t ho i ht hi hz hsize hby hs h hx hb hD fun A' c' w' h1 h2 h3 => hk _ _ (hK A' c' w' h1 h2 h3)
theorem wpList_append_ints {P : Program} {w : World} {ops : Array Oper} {rest : List Oper} {o : Oper} {a : Act} {Q : Exit → Act → World → Prop} (hgd : o.guard = none) (s x : Operand) (t : TypeId)
    (ho : o.op = .call { callee := .builtin .append, args := #[s, x], argTypes := #[t, t] }) (i : TypeInfo) (ht : P.underlying t = some (.slice 2)) (hi : P.info? 2 = some i) (hz : i.zero = some (.int .i64 0))
    (hsize : i.size = 1) (hby : i.bytes = 8) {D n c m d : Nat} {A B : Option Addr} {xs ys : List Int} (hs : a.eval s = .slice A n c) (h : OwI w D A n c xs) (hx : a.eval x = .slice B m d) (hb : RI w B m ys) (hnm : n + m ≤ 4194304) (hD : D ≤ w.heap.size) (hnc : n ≤ c)
    (hK : ∀ A' c' w', OwI w' D A' (n + m) c' (xs ++ ys) → w.grownBy w' (Value.slice A n c).ownBlock → (∀ b o s, A' = some ⟨b, o, s⟩ → (Value.slice A n c).ownBlock = some b ∨ b = w.heap.size) → wpList P ops Q rest (a.put o.dst (.slice A' (n + m) c')) w') : wpList P ops Q (o :: rest) a w :=
  wpList_plain hgd fun _ hk => wp_append_ints s x t ho i ht hi hz hsize hby hs h hx hb hnm hD hnc fun A' c' w' h1 h2 h3 => hk _ _ (hK A' c' w' h1 h2 h3)
set_option maxRecDepth 100000 in
set_option maxHeartbeats 1000000 in
theorem c_clone {A : Option Addr} {n c : Nat} {xs : List Int} {w : World} (h0 : RI w A n xs) : Calls Try.prog 33 #[.slice A n c] w (NewI w xs) := by
  have hn := h0.le
  cases A with
  | none =>
    have hz : n = 0 := by
      rcases Nat.eq_zero_or_pos n with h | h
      · exact h
      · obtain ⟨b, o, e, _⟩ := h0.2 h; cases e
    have hx : xs = [] := List.length_eq_zero_iff.1 (by rw [h0.len, hz])
    subst hx
    subst hz
    have hnil : ∀ w : World, (binOp .eql 27 (.slice none 0 c) (.slice none 0 0)).run Try.prog w = .ok (.bool true) w := fun w => run_eql_slice_nil w _ _ none 0 c Try.underlying27
    go_enter Try.func33, Try.ntmps33
    go_wp2
    go_ret
    exact ⟨none, 0, 0, rfl, ⟨by omega, World.ownsRow_nil _ _ _ _⟩, Ext.refl _⟩
  | some p =>
    have HA := Lib.hid h0
    obtain ⟨i0, hii, hiz, his, hib⟩ := info_parts int64_info
    have hnil : ∀ w : World, (binOp .eql 27 (.slice (some p) n c) (.slice none 0 0)).run Try.prog w = .ok (.bool false) w := fun w => run_eql_slice_nil w _ _ (some p) n c Try.underlying27
    clear h0
    go_enter Try.func33, Try.ntmps33
    go_wp2_with (at_builtin; go_loud (refine wpList_append_new rfl (.tmp 5) (.tmp 6) 27 rfl i0 Try.underlying27 hii hiz his hib (D := w.heap.size) rfl (OwI.none0 (Nat.le_refl _)) rfl (RI.ext HA.out (by exact extX)) (by go_size) ?_))
    intro A2 c2 w2 hO hg hat
    have HO := Lib.hid hO
    have hE : Ext w w2 := Ext.grown ((Ext.refl w).alloc _) hg (fun k hk => by cases hk; exact Nat.le_refl _)
    clear hO hg hat
    go_wp2
    go_ret
    exact ⟨A2, n, c2, rfl, HO.out, hE⟩
end Go.Proofs.Ytibeelcnooelkaa
namespace Go.Proofs.Ytibeelcnooelkaa
open Go.RowKit
set_option linter.unusedSimpArgs false
set_option linter.unusedVariables false
theorem RI.takeU {w : World} {A : Option Addr} {n k : Nat} {xs : List Int} (h : RI w A n xs) (hk : k ≤ n) : RI w A k (xs.take k) := by
  refine ⟨⟨by rw [List.length_take, h.len]; omega, by have := h.le; omega⟩, fun h0 => ?_⟩
  obtain ⟨b, o, hA, hc⟩ := h.2 (by omega)
  refine ⟨b, o, hA, fun j x hx => hc j x ?_⟩
  rw [List.getElem?_take] at hx
  split at hx
  · exact hx
  · cases hx
end Go.Proofs.Ytibeelcnooelkaa
namespace Go.Proofs.Ytibeelcnooelkaa
open Go.RowKit
set_option linter.unusedSimpArgs false
set_option linter.unusedVariables false
theorem ownsRow_putRowAt {w : World} {base : Nat} {e : TypeId} {g n cap q off : Nat} {zs ys : List Int} (h : w.ownsRow base e 1 (.slice (some ⟨g, 0, none⟩) n cap) n (zs.map (Value.int .i64))) (hy : off + ys.length = n) :
    (Go.Sort.putRow (Value.int .i64) (Go.Sort.ahead w q) g off ys.toArray).ownsRow base e 1 (.slice (some ⟨g, 0, none⟩) n cap) n ((zs.take off ++ ys).map (Value.int .i64)) := by
  have hzl : zs.length = n := by simpa using h.1
  rcases h.2 with ⟨e0, _⟩ | ⟨g', cap', cur, e0, hb, hg, hn, hm, hs, ht⟩
  · cases e0
  · injection e0 with e1 _ e3
    injection e1 with e1
    injection e1 with e1
    subst e1; subst e3
    refine ⟨by simp; omega, .inr ⟨g, cap, Go.Sort.putCells (Value.int .i64) off ys.toArray cur, rfl, hb, ?_, by omega, hm, by simpa [Go.Sort.putCells] using hs, ?_⟩⟩
    · simp [Go.Sort.putRow, Go.Sort.mapBlock, Go.Sort.ahead, Array.getElem?_modify, hg, Go.Sort.onCells]
    · apply List.ext_getElem?
      intro j
      have htj : (cur.toList.take (n * 1))[j]? = (zs.map (Value.int .i64))[j]? := by rw [ht]
      rw [List.getElem?_take, Nat.mul_one, Array.getElem?_toList] at htj
      rw [List.getElem?_take, Nat.mul_one, Array.getElem?_toList, List.getElem?_map]
      by_cases hj : j < n
      · have hjc : j < cur.size := by omega
        rw [if_pos hj] at htj ⊢
        rw [Array.getElem?_eq_getElem hjc, List.getElem?_map] at htj
        simp only [Go.Sort.putCells, Array.getElem?_mapIdx, Array.getElem?_eq_getElem hjc, Option.map_some]
        by_cases hjo : off ≤ j
        · rw [if_pos ⟨hjo, by simp; omega⟩, List.getElem?_append_right (by rw [List.length_take]; omega), List.length_take, Nat.min_eq_left (by omega), List.getElem?_eq_getElem (by omega)]
          simp [getElem!_pos, show j - off < ys.length by omega]
        · rw [if_neg (fun h => hjo h.1), htj, List.getElem?_append_left (by rw [List.length_take]; omega), List.getElem?_take, if_pos (by omega)]
      · rw [if_neg hj, List.getElem?_eq_none (by rw [List.length_append, List.length_take]; omega)]; rfl
theorem below_putRowAt {B : Nat} {w : World} {g q off : Nat} {d : Array Int} (hg : B ≤ g) : Below B w (Go.Sort.putRow (Value.int .i64) (Go.Sort.ahead w q) g off d) :=
  ⟨rfl, rfl, rfl, by simp [Go.Sort.putRow, Go.Sort.mapBlock, Go.Sort.ahead], fun k hk => by
    simp [Go.Sort.putRow, Go.Sort.mapBlock, Go.Sort.ahead, Array.getElem?_modify, show g ≠ k by omega]⟩
def lay35_ren : Go.Shelf.Ren := ⟨fun | 35 => 64 | n => n, fun | 22 => 27 | 23 => 2 | 3 => 3 | 4 => 4 | 0 => 0 | n => n, fun n => n⟩
theorem lay35 : SlLaysN.n35 Try.prog lay35_ren := { mixed := by kernel_rfl, f35 := ⟨Try.f64.name, by decide, Try.func64.trans (congrArg some (by kernel_rfl))⟩, t0 := Try.underlying0, a0 := Try.isAgg0, z0 := Try.sizeOf0, v0 := Try.zeroValue0, t3 := Try.underlying3, a3 := Try.isAgg3, z3 := Try.sizeOf3, v3 := Try.zeroValue3, t4 := Try.underlying4, a4 := Try.isAgg4, z4 := Try.sizeOf4, v4 := Try.zeroValue4, t22 := Try.underlying27, a22 := Try.isAgg27, z22 := Try.sizeOf27, v22 := Try.zeroValue27, t23 := Try.underlying2, a23 := Try.isAgg2, z23 := Try.sizeOf2, v23 := Try.zeroValue2 }
theorem c_reverseI {g n c B k m cap : Nat} {xs : List Int} {w : World} (h : OwI w B (some ⟨g, 0, none⟩) n c xs) (hk : k ≤ n) (hm : m = n - k) (hg : B ≤ g) :
    Calls Try.prog 64 #[.slice (some ⟨g, k, none⟩) m cap] w fun e w' => e = .returned (.tuple #[]) ∧ OwI w' B (some ⟨g, 0, none⟩) n c (xs.take k ++ (xs.drop k).reverse) ∧ Below B w w' := by
  have hl := h.len
  have hd : (xs.drop k).length = m := by rw [List.length_drop]; omega
  subst hd
  have hH : Go.Sort.Holds (Value.int .i64) w g k (xs.drop k).toArray := fun j hj => by
    have hj' : j < xs.length - k := by simpa using hj
    obtain ⟨x, hx, hc, hf⟩ := OwI.at_ h (show k + j < n by omega)
    refine ⟨?_, hf⟩
    rw [hc]
    have e : (xs.drop k).toArray[j]! = x := by
      rw [getElem!_pos (xs.drop k).toArray j hj]
      simpa using (List.getElem?_eq_some_iff.1 hx).2
    rw [e]
  refine (AnyG.slices_Reverse_int lay35 g k cap (xs.drop k) w hH (by rw [List.length_drop]; have := h.1; omega)).mono ?_
  rintro e w' ⟨rfl, q, rfl⟩
  have h1 := ownsRow_putRowAt (q := q) (off := k) (ys := (xs.drop k).reverse) h.2 (by simp; omega)
  exact ⟨rfl, ⟨h.1, h1⟩, below_putRowAt hg⟩
set_option maxRecDepth 100000 in
set_option maxHeartbeats 1000000 in
theorem c_firstPerm {n : Nat} {w : World} (hn : n ≤ 1000) : Calls Try.prog 36 #[.int .i64 (n : Int)] w (NewI w (upI 0 n)) := by
  obtain ⟨i0, hi0, hz0, hz1, hz2⟩ := info_parts int64_info
  go_enter Try.func36, Try.ntmps36
  go_wp2_with (at_make; refine wpList_make_full _ rfl _ _ 27 rfl w.heap.size 2 i0 _ 1 Try.underlying27 hi0 hz0 hz1 _ _ _ _ n rfl rfl rfl rfl (by rw [hz2]; omega) (by simp only [maxLen]; omega) (Nat.le_refl _) ?_)
  intro w1 hown0 hg
  rw [madeInts] at hown0
  have hown := OwI.made hown0 (by omega)
  have hE : Ext w w1 := Ext.grown (Ext.refl _) hg (fun k hk => by cases hk)
  go_wp2
  go_loopw [9] (fun i wr => ∃ k : Nat, i = .int .i64 k ∧ k ≤ n ∧ Hid (OwI wr w.heap.size (some ⟨w.heap.size, 0, none⟩) n n ((upI 0 n).take k ++ List.replicate (n - k) 0)) ∧ Ext w wr) (fun i _ => n - (intOf i).toNat)
  case atStart => exact ⟨0, rfl, Nat.zero_le _, Lib.hid (by rw [List.take_zero, List.nil_append, Nat.sub_zero]; exact hown), hE⟩
  case round =>
    obtain ⟨k, rfl, hk, hO, hw⟩ := hrel
    by_cases hlt : k < n
    · obtain ⟨z, hz, hcz, hfz⟩ := OwI.at_ hO.out hlt
      have hx := upI_get n 0 k hlt
      rw [Int.zero_add] at hx
      have HN := Lib.hid (show OwI (wr.setCell ⟨w.heap.size, k, none⟩ (.int .i64 (k : Int))) w.heap.size (some ⟨w.heap.size, 0, none⟩) n n ((upI 0 n).take (k + 1) ++ List.replicate (n - (k + 1)) 0) by
        have := OwI.set hO.out k (k : Int)
        rw [set_take (upI_len 0 n) hx] at this
        exact this)
      have hlt' : (k : Int) < (n : Int) := by omega
      clear hz hx
      go_wp2
      go_roundw
      case rel => exact ⟨k + 1, by go_num, by omega, HN, Ext.set hw (Nat.le_refl _) _⟩
      case measure => simp only [intOf]; omega
    · go_wp2
      go_ret
      have hkn : k = n := by omega
      subst hkn
      have e : (upI 0 k).take k ++ List.replicate (k - k) 0 = upI 0 k := by rw [Nat.sub_self, List.take_of_length_le (by rw [upI_len]; exact Nat.le_refl _)]; simp
      have hO2 := hO.out
      rw [e] at hO2
      exact ⟨_, _, _, rfl, hO2, hw⟩
set_option maxRecDepth 100000 in
set_option maxHeartbeats 4000000 in
theorem c_nextRank {A : Option Addr} {n c B : Nat} {xs : List Int} {w : World} (hok : permOk xs = true) (h : OwI w B A n c xs) (hB : B ≤ w.heap.size) :
    Calls Try.prog 37 #[.slice A n c] w fun e w' => e = .returned (.bool (nextB xs)) ∧ Below B w w' ∧ (nextB xs = true → OwI w' B A n c (nextV xs)) := by
  have hl := h.len
  have hn8 : n ≤ 8 := by rw [← hl]; exact (permOk_iff.1 hok).2.2
  have HO := Lib.hid h
  have HL := Lib.hid hl
  have HOK := Lib.hid hok
  have hcap := h.cap
  clear h hl hok
  go_enter Try.func37, Try.ntmps37
  go_wp2_with fail
  go_loopw [3] (fun iv wr => ∃ (z : Int) (k : Nat), iv = .int .i64 z ∧ (z = (k : Int) - 1 ∨ z = -2 ∧ k = 0) ∧ k ≤ n - 1 ∧ Hid (upGo xs k = upAt xs ∧ fallsFrom xs k) ∧ Ext w wr) (fun iv _ => (intOf iv + 2).toNat)
  case atStart => exact ⟨(n : Int) - 2, n - 1, by go_num, by omega, by omega, Lib.hid ⟨by rw [← HL.out]; rfl, falls_last _ _ (by rw [HL.out]; omega)⟩, by exact extX⟩
  case round =>
    obtain ⟨z, k, rfl, hz, hk, hST, hE⟩ := hrel
    rcases Nat.eq_zero_or_pos k with hk0 | hk0
    · subst hk0
      have hzn : z < 0 := by omega
      have hzb : decide (0 ≤ z) = false := by simp; omega
      have HU := Lib.hid (next_none (xs := xs) hST.out.1.symm)
      go_wp2_with fail
      go_quiet (fail)
      go_wp2
      go_ret
      exact ⟨ret_bool HU.out.2.symm, Below.mono (show Ext w _ by exact extX) hB, fun h => by rw [HU.out.2] at h; cases h⟩
    · obtain ⟨p, rfl⟩ : ∃ p, k = p + 1 := ⟨k - 1, by omega⟩
      have hzp : z = (p : Int) := by omega
      subst hzp
      have hp1 : p + 1 < n := by omega
      obtain ⟨g, rfl, hgB, _⟩ : ∃ g, A = some ⟨g, 0, none⟩ ∧ B ≤ g ∧ g < w.heap.size := by
        rcases HO.out.form with ⟨_, h0, _⟩ | h
        · omega
        · exact h
      obtain ⟨x, hx, hcx, _⟩ := OwI.at_ (HO.out.ext hE) (show p < n by omega)
      obtain ⟨y, hy, hcy, _⟩ := OwI.at_ (HO.out.ext hE) hp1
      have HX := Lib.hid hx
      have HY := Lib.hid hy
      have hpz : (0 : Int) ≤ (p : Int) := by omega
      have hpd : decide ((0 : Int) ≤ (p : Int)) = true := by simp
      have hpi : (p : Int) < (n : Int) := by omega
      have hpi1 : (p : Int) + 1 < (n : Int) := by omega
      clear hx hy
      by_cases hxy : y < x
      · have hd2 : decide (y < x) = true := by simpa using hxy
        have HN := Lib.hid (show upGo xs p = upAt xs ∧ fallsFrom xs p from ⟨by rw [← hST.out.1, upGo_go HX.out HY.out hxy], falls_down hST.out.2 HX.out HY.out hxy⟩)
        go_wp2_with fail
        go_quiet (fail)
        go_wp2
        go_roundw
        case rel => exact ⟨(p : Int) - 1, p, by go_num, by omega, by omega, HN, by exact extX⟩
        case measure => simp only [intOf]; omega
      · have hd2 : decide (y < x) = false := by simpa using hxy
        have HUP := Lib.hid (show upAt xs = some p by rw [← hST.out.1, upGo_stop HX.out HY.out hxy])
        go_wp2_with fail
        go_quiet (fail)
        obtain ⟨k0, a0, b0, hN⟩ := nextI HOK.out HUP.out
        have hik := hN.ik
        have hkn : k0 < n := by have := (List.getElem?_eq_some_iff.1 hN.hb).1; rw [HL.out] at this; exact this
        have ha0 : x = a0 := by have := hN.ha; rw [HX.out] at this; exact Option.some.inj this
        subst ha0
        have HNX := Lib.hid hN
        have HNV := Lib.hid (nextV_some HOK.out HUP.out hN)
        have HNB := Lib.hid (nextB_some HOK.out HUP.out)
        clear hN
        go_wp2_with fail
        go_loopw [4] (fun kv wr => ∃ q : Nat, kv = .int .i64 q ∧ k0 ≤ q ∧ q < n ∧ Ext w wr) (fun kv _ => (intOf kv).toNat)
        case atStart => exact ⟨n - 1, by go_num, by omega, by omega, by exact extX⟩
        case round =>
          obtain ⟨q, rfl, hkq, hqn, hE2⟩ := hrel
          obtain ⟨u, hu, hcu, hfu⟩ := OwI.at_ (HO.out.ext hE2) hqn
          obtain ⟨x', hx', hcx', hfx'⟩ := OwI.at_ (HO.out.ext hE2) (show p < n by omega)
          rw [HX.out] at hx'; cases hx'
          have hq0 : (0 : Int) ≤ (q : Int) := by omega
          have hqi : (q : Int) < (n : Int) := by omega
          rcases Nat.lt_or_ge k0 q with hlt | hge
          · have hux : u < x := HNX.out.low q u hlt hu
            have hud : decide (u < x) = true := by simpa using hux
            clear hu
            go_wp2_with fail
            go_quiet (fail)
            go_wp2
            go_roundw
            case rel => exact ⟨q - 1, by go_num, by omega, by omega, by exact extX⟩
            case measure => simp only [intOf]; omega
          · have hqk : q = k0 := by omega
            subst hqk
            have hub : u = b0 := by have := HNX.out.hb; rw [hu] at this; exact Option.some.inj this
            subst hub
            have hxu := HNX.out.nx.lt
            have hud : decide (u < x) = false := by simp; omega
            have HSW := Lib.hid (nextL_set HX.out hik hu)
            clear hu
            have hpq : ¬ p = q := by omega
            have hqp : ¬ q = p := by omega
            have HOr := Lib.hid (HO.out.ext hE2)
            go_wp2_with fail
            go_quiet (fail)
            go_wp2_with fail
            go_region_o
            have HS := Lib.hid (show OwI (((wr.drewN (nq + 1)).setCell ⟨g, p, none⟩ (.int .i64 u)).setCell ⟨g, q, none⟩ (.int .i64 x)) B (some ⟨g, 0, none⟩) n c ((xs.set p u).set q x) from OwI.set (OwI.set (OwI.drewN HOr.out (nq + 1)) p u) q x)
            have hBS : Below B w (((wr.drewN (nq + 1)).setCell ⟨g, p, none⟩ (.int .i64 u)).setCell ⟨g, q, none⟩ (.int .i64 x)) := Below.setCell (Below.setCell (Below.mono (show Ext w _ from hE2.drewN _) hB) hgB _) hgB _
            obtain ⟨ws, hws⟩ : ∃ ws, ws = ((wr.drewN (nq + 1)).setCell ⟨g, p, none⟩ (.int .i64 u)).setCell ⟨g, q, none⟩ (.int .i64 x) := ⟨_, rfl⟩
            rw [← hws] at HS hBS ⊢
            clear hws
            have hci : ¬ c = p + 1 := by omega
            have hp1c : (p : Int) + 1 ≤ (c : Int) := by omega
            have hp1n : (p : Int) + 1 ≤ (n : Int) := by omega
            go_wp2_with fail
            (with_reducible refine (c_reverseI (k := p + 1) HS.out (by omega) (by omega) hgB).mono ?_)
            rintro e w5 ⟨rfl, hO5, hB5⟩
            have HO5 := Lib.hid hO5
            clear hO5
            go_wp2
            go_ret
            exact ⟨ret_bool HNB.out.symm, hBS.trans hB5, fun _ => by rw [HNV.out, ← HSW.out]; exact HO5.out⟩
theorem c_nextRank2 {A : Option Addr} {n c B : Nat} {xs : List Int} {b : Bool} {w : World} (hb : nextB xs = b) (hok : permOk xs = true) (h : OwI w B A n c xs) (hB : B ≤ w.heap.size) :
    Calls Try.prog 37 #[.slice A n c] w fun e w' => e = .returned (.bool b) ∧ Below B w w' ∧ (b = true → OwI w' B A n c (nextV xs)) := by subst hb; exact c_nextRank hok h hB
theorem nextB_perm {xs : List Int} (h : nextB xs = false) : nextV xs = [] := by
  unfold nextB at h
  cases hp : permOk xs with
  | false => exact (next_bad hp).1
  | true =>
    rw [hp, Bool.true_and] at h
    exact (next_none (Option.not_isSome_iff_eq_none.1 (by rw [h]; decide))).1
end Go.Proofs.Ytibeelcnooelkaa
namespace Go.Proofs.Ytibeelcnooelkaa
set_option linter.unusedVariables false
def valR : List Int → Nat
  | [] => 0
  | x :: t => x.toNat * 8 ^ t.length + valR t
theorem valR_lt : ∀ {t : List Int}, (∀ x ∈ t, x < 8) → valR t < 8 ^ t.length
  | [], _ => by simp [valR]
  | x :: t, h => by
    have ih := valR_lt fun y hy => h y (List.mem_cons_of_mem _ hy)
    have hx : x.toNat ≤ 7 := by have := h x List.mem_cons_self; omega
    have h1 : x.toNat * 8 ^ t.length ≤ 7 * 8 ^ t.length := Nat.mul_le_mul_right _ hx
    show x.toNat * 8 ^ t.length + valR t < 8 ^ (t.length + 1)
    rw [Nat.pow_succ]
    omega
theorem valR_append : ∀ (s t : List Int), valR (s ++ t) = valR s * 8 ^ t.length + valR t
  | [], t => by simp [valR]
  | x :: s, t => by
    show x.toNat * 8 ^ (s ++ t).length + valR (s ++ t) = (x.toNat * 8 ^ s.length + valR s) * 8 ^ t.length + valR t
    rw [valR_append s t, List.length_append, Nat.pow_add, Nat.add_mul, Nat.mul_assoc]
    omega
theorem permOk_perm {xs ys : List Int} (h : permOk xs = true) (p : ys.Perm xs) : permOk ys = true := by
  obtain ⟨h1, h2, h3⟩ := permOk_iff.1 h
  have hl := p.length_eq
  exact permOk_iff.2 ⟨p.nodup_iff.2 h1, fun x hx => by rw [hl]; exact h2 x (p.mem_iff.1 hx), by omega⟩
theorem nextV_up {xs : List Int} (hb : nextB xs = true) : permOk (nextV xs) = true ∧ (nextV xs).length = xs.length ∧ valR xs < valR (nextV xs) := by
  unfold nextB at hb
  rw [Bool.and_eq_true] at hb
  obtain ⟨hp, hu⟩ := hb
  obtain ⟨i, hi⟩ := Option.isSome_iff_exists.1 hu
  obtain ⟨k, a, b, hN⟩ := nextI hp hi
  rw [nextV_some hp hi hN]
  obtain ⟨pre, hpre⟩ : ∃ l, l = xs.take i := ⟨_, rfl⟩
  obtain ⟨T1, hT1⟩ : ∃ l, l = (xs.take k).drop (i + 1) := ⟨_, rfl⟩
  obtain ⟨T2, hT2⟩ : ∃ l, l = xs.drop (k + 1) := ⟨_, rfl⟩
  have hx := hN.nx.eq
  have hlt := hN.nx.lt
  rw [← hpre, ← hT1, ← hT2] at hx ⊢
  have hperm : (nextL pre a T1 b T2).Perm xs := by
    rw [hx]
    unfold nextL
    refine List.Perm.append_left pre ?_
    refine (List.Perm.cons b (List.reverse_perm _)).trans ?_
    refine ((List.perm_middle (l₁ := T1) (l₂ := T2) (a := a)).cons b).trans ?_
    refine (List.Perm.swap a b (T1 ++ T2)).trans ?_
    exact ((List.perm_middle (l₁ := T1) (l₂ := T2) (a := b)).symm.cons a)
  obtain ⟨h1, h2, h3⟩ := permOk_iff.1 hp
  refine ⟨permOk_perm hp hperm, hperm.length_eq, ?_⟩
  have ha : 0 ≤ a := (h2 a (by rw [hx]; simp)).1
  have hd : ∀ y ∈ T1 ++ b :: T2, y < 8 := fun y hy => by
    have := (h2 y (by rw [hx]; exact List.mem_append_right _ (List.mem_cons_of_mem _ hy))).2
    omega
  have hv := valR_lt hd
  have hlen : ((T1 ++ a :: T2).reverse).length = (T1 ++ b :: T2).length := by simp; omega
  rw [hx]
  unfold nextL
  rw [valR_append, valR_append]
  show _ + (a.toNat * 8 ^ (T1 ++ b :: T2).length + valR (T1 ++ b :: T2)) < _ + (b.toNat * 8 ^ ((T1 ++ a :: T2).reverse).length + valR _)
  rw [List.length_cons, List.length_cons, hlen]
  have hab : a.toNat + 1 ≤ b.toNat := by omega
  have h5 : (a.toNat + 1) * 8 ^ (T1 ++ b :: T2).length ≤ b.toNat * 8 ^ (T1 ++ b :: T2).length := Nat.mul_le_mul_right _ hab
  rw [Nat.add_mul, Nat.one_mul] at h5
  omega
def muR (xs : List Int) : Nat := 8 ^ xs.length - valR xs
theorem muR_next {xs : List Int} (hb : nextB xs = true) : muR (nextV xs) < muR xs := by
  obtain ⟨h1, h2, h3⟩ := nextV_up hb
  obtain ⟨_, k2, k3⟩ := permOk_iff.1 h1
  have h4 := valR_lt (t := nextV xs) fun x hx => by have := (k2 x hx).2; omega
  unfold muR
  rw [h2] at h4 ⊢
  omega
noncomputable def gsR (T : List Int → Prop) : Nat → List Int → Option (List Int)
  | 0, _ => none
  | k + 1, xs => @ite _ (T xs) (Classical.propDecidable _) (some xs) (if nextB xs = true then gsR T k (nextV xs) else none)
def OnG (T : List Int → Prop) (o : Option (List Int)) (k : Nat) (xs : List Int) : Prop := permOk xs = true ∧ muR xs < k ∧ gsR T k xs = o
theorem OnG.start {T : List Int → Prop} {o : Option (List Int)} {xs : List Int} (h : permOk xs = true) (e : gsR T (muR xs + 1) xs = o) : OnG T o (muR xs + 1) xs := ⟨h, by omega, e⟩
theorem OnG.yes {T : List Int → Prop} {o : Option (List Int)} {k : Nat} {xs : List Int} (h : OnG T o k xs) (ht : T xs) : o = some xs := by
  obtain ⟨_, h2, h3⟩ := h
  obtain ⟨m, rfl⟩ : ∃ m, k = m + 1 := ⟨k - 1, by omega⟩
  rw [← h3, gsR, if_pos ht]
theorem OnG.next {T : List Int → Prop} {o : Option (List Int)} {k : Nat} {xs : List Int} (h : OnG T o k xs) (ht : ¬ T xs) (hb : nextB xs = true) : ∃ m, m < k ∧ OnG T o m (nextV xs) := by
  obtain ⟨_, h2, h3⟩ := h
  obtain ⟨m, rfl⟩ : ∃ m, k = m + 1 := ⟨k - 1, by omega⟩
  rw [gsR, if_neg ht, if_pos hb] at h3
  have := muR_next hb
  exact ⟨m, by omega, (nextV_up hb).1, by omega, h3⟩
theorem OnG.stop {T : List Int → Prop} {o : Option (List Int)} {k : Nat} {xs : List Int} (h : OnG T o k xs) (ht : ¬ T xs) (hb : nextB xs = false) : o = none := by
  obtain ⟨_, h2, h3⟩ := h
  obtain ⟨m, rfl⟩ : ∃ m, k = m + 1 := ⟨k - 1, by omega⟩
  rw [gsR, if_neg ht, if_neg (by rw [hb]; decide)] at h3
  exact h3.symm
theorem upI_ok {n : Nat} (h : n ≤ 8) : permOk (upI 0 n) = true := by
  have hl : (upI 0 n).length = n := upI_len 0 n
  refine permOk_iff.2 ⟨?_, fun x hx => ?_, by omega⟩
  · exact (upI_inc 0 n).imp fun h => by omega
  · rw [hl]; have := (upI_mem).1 hx; omega
end Go.Proofs.Ytibeelcnooelkaa
