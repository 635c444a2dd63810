/- Proved: for every input the law FnKboStable returns true, does not panic, and its argument reads afterwards as it read before. Conditions: none. -/
import Derived.Test.YtleahogikppepaaHeld
import Derived.Test.YtleahogikppepaaOpenBy
import Derived.Test.YtleahogikppepaaKboTot
import Derived.Test.YtleahogikppepaaMKboF
import Derived.Test.YtleahogikppepaaFilB
import Derived.Test.YtleahogikppepaaDicU
-- rd: RdWt
namespace Go.Proofs.Ytleahogikppepaa.FnKboStable
open Go.ChangeShapes Go.WideShapes Go.ChangeAt Go.RowKit
set_option linter.unusedSimpArgs false
set_option linter.unusedVariables false
set_option linter.constructorNameAsVariable false

/-- What is there when the dice have been thrown. -/
structure There (w : World) (s q : Nat) (AS SA SB TA TB : Option Addr) (cS na ca nb cb : Nat) (W : Wt) (a b : Tm) : Prop where
  s0 : w.cell? ⟨s, 0, none⟩ = some (.slice AS 3 cS)
  q0 : w.cell? ⟨q, 0, none⟩ = some (.int .i64 W.var)
  q1 : w.cell? ⟨q, 1, none⟩ = some (.slice SA 3 3)
  q2 : w.cell? ⟨q, 2, none⟩ = some (.slice SB 3 3)
  sg : RI w AS 3 ar3
  sy : RI w SA 3 W.sym
  rk : RI w SB 3 W.rank
  ta : RI w TA na a.flat
  tb : RI w TB nb b.flat
theorem There.ext {w w' : World} {s q : Nat} {AS SA SB TA TB : Option Addr} {cS na ca nb cb : Nat} {W : Wt} {a b : Tm} (h : There w s q AS SA SB TA TB cS na ca nb cb W a b) (k : Ext w w') : There w' s q AS SA SB TA TB cS na ca nb cb W a b :=
  ⟨Ext.keep k h.s0, Ext.keep k h.q0, Ext.keep k h.q1, Ext.keep k h.q2, h.sg.ext k, h.sy.ext k, h.rk.ext k, h.ta.ext k, h.tb.ext k⟩
/-- The same, off the block of the dice. -/
structure ThereG (w : World) (g s q : Nat) (AS SA SB TA TB : Option Addr) (cS na ca nb cb : Nat) (W : Wt) (a b : Tm) : Prop where
  th : There w s q AS SA SB TA TB cS na ca nb cb W a b
  sn : s ≠ g
  qn : q ≠ g
  o1 : ∀ b o s, AS = some ⟨b, o, s⟩ → b ≠ g
  o2 : ∀ b o s, SA = some ⟨b, o, s⟩ → b ≠ g
  o3 : ∀ b o s, SB = some ⟨b, o, s⟩ → b ≠ g
  o4 : ∀ b o s, TA = some ⟨b, o, s⟩ → b ≠ g
  o5 : ∀ b o s, TB = some ⟨b, o, s⟩ → b ≠ g
theorem ThereG.ext {w w' : World} {g s q : Nat} {AS SA SB TA TB : Option Addr} {cS na ca nb cb : Nat} {W : Wt} {a b : Tm} (h : ThereG w g s q AS SA SB TA TB cS na ca nb cb W a b) (k : Ext w w') : ThereG w' g s q AS SA SB TA TB cS na ca nb cb W a b :=
  ⟨h.th.ext k, h.sn, h.qn, h.o1, h.o2, h.o3, h.o4, h.o5⟩
theorem cell_only {w w' : World} {g p i : Nat} {v : Value} (k : Only w w' g) (hp : p ≠ g) (hc : w.cell? ⟨p, i, none⟩ = some v) : w'.cell? ⟨p, i, none⟩ = some v := by
  rw [World.cell?_of_block (w := w) (w' := w') (a := ⟨p, i, none⟩) (k.block _ (World.block_lt_of_cell? w _ hc) (fun e => by cases e; exact hp rfl))]; exact hc
theorem ThereG.only {w w' : World} {g s q : Nat} {AS SA SB TA TB : Option Addr} {cS na ca nb cb : Nat} {W : Wt} {a b : Tm} (h : ThereG w g s q AS SA SB TA TB cS na ca nb cb W a b) (k : Only w w' g) : ThereG w' g s q AS SA SB TA TB cS na ca nb cb W a b :=
  ⟨⟨cell_only k h.sn h.th.s0, cell_only k h.qn h.th.q0, cell_only k h.qn h.th.q1, cell_only k h.qn h.th.q2, (RIg.only ⟨h.th.sg, h.o1⟩ k).1, (RIg.only ⟨h.th.sy, h.o2⟩ k).1, (RIg.only ⟨h.th.rk, h.o3⟩ k).1, (RIg.only ⟨h.th.ta, h.o4⟩ k).1, (RIg.only ⟨h.th.tb, h.o5⟩ k).1⟩, h.sn, h.qn, h.o1, h.o2, h.o3, h.o4, h.o5⟩
/-- Elements are appended to a full row: a new one. -/
theorem wp_append_full {P : Program} {w : World} {o : Oper} {a : Act} {K : Act → World → Prop} {Q : Exit → Act → World → Prop} (s x : Operand) (t : TypeId)
    (ho : o.op = .call { callee := .builtin .append, args := #[s, x], argTypes := #[t, t] }) (i : TypeInfo) (ht : P.underlying t = some (.slice 2)) (hi : P.info? 2 = some i) (hz : i.zero = some (.int .i64 0))
    (hsize : i.size = 1) (hby : i.bytes = 8) {n m d g : Nat} {B : Option Addr} {xs ys : List Int} (hs : a.eval s = .slice (some ⟨g, 0, none⟩) n n) (ha : RI w (some ⟨g, 0, none⟩) n xs) (hx : a.eval x = .slice B m d) (hb : RI w B m ys) (hm : 0 < m) (hnm : n + m ≤ 4194304)
    (hK : ∀ A' c' w', OwI w' w.heap.size A' (n + m) c' (xs ++ ys) → Ext w w' → K (a.put o.dst (.slice A' (n + m) c')) w') : o.wp P a w K Q := by
  obtain ⟨b', q, rfl, hcell⟩ := hb.2 hm
  have hle := hb.le
  obtain ⟨v', w', hrun, r1, r2⟩ := run_append_arg_grows (P := P) w t o.type 2 i (.int .i64 0) 1 8 ht hi hz hsize hby rfl (by decide) ⟨g, 0, none⟩ n n (xs.map (Value.int .i64)) (by rw [List.length_map, ha.len, Nat.mul_one])
    (fun j u hu => by
      rw [List.getElem?_map] at hu
      obtain ⟨y, hy, rfl⟩ := Option.map_eq_some_iff.1 hu
      obtain ⟨b2, o2, e2, hc2⟩ := ha.2 (by have := (List.getElem?_eq_some_iff.1 hy).1; have := ha.len; omega)
      cases e2
      rw [Addr.add_lit]; exact hc2 j y hy) ⟨b', q, none⟩ m d (ys.map (Value.int .i64)) (by rw [List.length_map, hb.len, Nat.mul_one])
    (fun j u hu => by
      rw [List.getElem?_map] at hu
      obtain ⟨y, hy, rfl⟩ := Option.map_eq_some_iff.1 hu
      rw [Addr.add_lit]; exact hcell j y hy)
    (by omega) (by unfold maxLen; omega) (by omega)
  rw [← List.map_append] at r1
  obtain ⟨g', cap, rfl, _, _⟩ := World.ownsRow.form r1 (by omega)
  unfold Oper.wp
  simp only [execOp, ho, resolve, invoke, builtin, Sem.run_bind, Sem.run_pure, Result.andThen_ok, List.map_toArray, List.map_cons, List.map_nil, hs, hx, hrun]
  exact hK _ _ _ ⟨hnm, r1⟩ (Ext.grown (Ext.refl w) r2 (fun k hk => by cases hk))
theorem wpList_append_full {P : Program} {w : World} {ops : Array Oper} {rest : List Oper} {o : Oper} {a : Act} {Q : Exit → Act → World → Prop} (hgd : o.guard = none) (s x : Operand) (t : TypeId)
    (ho : o.op = .call { callee := .builtin .append, args := #[s, x], argTypes := #[t, t] }) (i : TypeInfo) (ht : P.underlying t = some (.slice 2)) (hi : P.info? 2 = some i) (hz : i.zero = some (.int .i64 0))
    (hsize : i.size = 1) (hby : i.bytes = 8) {n m d g : Nat} {B : Option Addr} {xs ys : List Int} (hs : a.eval s = .slice (some ⟨g, 0, none⟩) n n) (ha : RI w (some ⟨g, 0, none⟩) n xs) (hx : a.eval x = .slice B m d) (hb : RI w B m ys) (hm : 0 < m) (hnm : n + m ≤ 4194304)
    (hK : ∀ A' c' w', OwI w' w.heap.size A' (n + m) c' (xs ++ ys) → Ext w w' → wpList P ops Q rest (a.put o.dst (.slice A' (n + m) c')) w') : wpList P ops Q (o :: rest) a w :=
  wpList_plain hgd fun _ hk => wp_append_full s x t ho i ht hi hz hsize hby hs ha hx hb hm hnm fun A' c' w' h1 h2 => hk _ _ (hK A' c' w' h1 h2)
/-- .. to an empty row without room. -/
theorem wp_append_fresh {P : Program} {w : World} {o : Oper} {a : Act} {K : Act → World → Prop} {Q : Exit → Act → World → Prop} (s x : Operand) (t : TypeId)
    (ho : o.op = .call { callee := .builtin .append, args := #[s, x], argTypes := #[t, t] }) (i : TypeInfo) (ht : P.underlying t = some (.slice 2)) (hi : P.info? 2 = some i) (hz : i.zero = some (.int .i64 0))
    (hsize : i.size = 1) (hby : i.bytes = 8) {m d g : Nat} {B : Option Addr} {ys : List Int} (hs : a.eval s = .slice (some ⟨g, 0, none⟩) 0 0) (hx : a.eval x = .slice B m d) (hb : RI w B m ys) (hm : 0 < m)
    (hK : ∀ A' c' w', OwI w' w.heap.size A' m c' ys → Ext w w' → K (a.put o.dst (.slice A' m c')) w') : o.wp P a w K Q :=
  wp_append_full s x t ho i ht hi hz hsize hby (n := 0) (xs := []) hs (RI.nil _ _) hx hb hm (by have := hb.le; omega) (fun A' c' w' h1 h2 => by
    rw [Nat.zero_add] at h1 ⊢
    exact hK A' c' w' (by simpa using h1) h2)
theorem c_oftenB {v0 v1 v2 : Value} {ar s t : List Int} {b : Bool} {w : World} (hb : oftenIn ar s t = b) (h0 : RdSig w v0 ar) (h1 : RdI w v1 s) (h2 : RdI w v2 t) :
    Calls Try.prog 24 #[v0, v1, v2] w fun e w' => e = .returned (.bool b) ∧ Ext w w' := by subst hb; exact c_iOftenIn h0 h1 h2
theorem c_kboWhyB {v0 v1 v2 v3 : Value} {ar : List Int} {W : Wt} {s t : List Int} {y : Int} {w : World} (hy : kboAns ar W s t = y) (h0 : RdSig w v0 ar) (h1 : RdWt w v1 W) (h2 : RdIc w v2 s) (h3 : RdIc w v3 t) :
    Calls Try.prog 23 #[v0, v1, v2, v3] w fun e w' => e = .returned (.int .i64 y) ∧ Ext w w' := by subst hy; exact c_iKboWhy h0 h1 h2 h3
theorem fillO_len {σ : List (List Int)} {t l : List Int} (h : fillO σ t = some l) : l = fill (gives σ) t ∧ l.length ≤ 60 := by
  unfold fillO at h
  split at h
  · cases h; exact ⟨rfl, by assumption⟩
  · cases h
/-- Both filled. -/
theorem filled_ok {σ : List (List Int)} {a : Tm} {x : List Int} (hσ : SubP ar3 σ) (oa : a.Ok ar3) (pa : TermP ar3 a.flat) (hx : fillO σ a.flat = some x) : TermP ar3 x ∧ (a.sub (givT ar3 σ)).Ok ar3 ∧ (a.sub (givT ar3 σ)).flat = x := by
  obtain ⟨e1, l1⟩ := fillO_len hx
  obtain ⟨o1, f1⟩ := fill_tree hσ oa
  have hv : ∀ z ∈ fill (gives σ) a.flat, -24 ≤ z := by
    intro z hz
    unfold fill at hz
    obtain ⟨q, hq1, hq2⟩ := List.mem_flatMap.1 hz
    have hq := pa.2.2.1 q hq1
    by_cases h0 : q < 0
    · rw [if_pos h0] at hq2
      rcases hσ.at_ (-1 - q).toNat with h1 | h1
      · rw [gives_no h1, List.mem_singleton] at hq2; subst hq2; exact hq
      · rw [gives_yes rfl (fun e => by rw [e] at h1; exact absurd h1.2.1.1 (by simp))] at hq2
        exact h1.2.2.1 z hq2
    · rw [if_neg h0, List.mem_singleton] at hq2; omega
  subst e1
  refine ⟨?_, o1, f1⟩
  rw [← f1]
  exact termP_flat sig3 o1 (by rw [f1]; exact l1) (by rw [f1]; exact hv)
theorem filled_less {W : Wt} {σ : List (List Int)} {a b : Tm} {x y : List Int} (hW : WtP ar3 W) (hσ : SubP ar3 σ) (oa : a.Ok ar3) (ob : b.Ok ar3) (pa : TermP ar3 a.flat) (pb : TermP ar3 b.flat) (h : 0 < kbo ar3 W a b) (hx : fillO σ a.flat = some x) (hy : fillO σ b.flat = some y) : kboLess ar3 W x y = true := by
  obtain ⟨p1, o1, f1⟩ := filled_ok hσ oa pa hx
  obtain ⟨p2, o2, f2⟩ := filled_ok hσ ob pb hy
  rw [← f1] at p1 ⊢
  rw [← f2] at p2 ⊢
  rw [kboLess3 hW p1 p2 o1 o2]
  simpa using kbo_fill hW (fun x hx => (givT_ok hσ hx).1) a b oa ob h
/-- Both inside of a term. -/
theorem inside_less {W : Wt} {u a b : Tm} (hW : WtP ar3 W) (ou : u.Ok ar3) (oa : a.Ok ar3) (ob : b.Ok ar3) (pa : TermP ar3 (Tm.node 0 [u, a]).flat) (pb : TermP ar3 (Tm.node 0 [u, b]).flat) (h : 0 < kbo ar3 W a b) : kboLess ar3 W (Tm.node 0 [u, a]).flat (Tm.node 0 [u, b]).flat = true := by
  have o1 := (both_ok ou oa).1
  have o2 := (both_ok ou ob).1
  rw [kboLess3 hW pa pb o1 o2]
  simpa using kbo_ctx (x := 0) (l := [u]) (r := []) o1 oa ob h
set_option maxRecDepth 100000 in
set_option maxHeartbeats 16000000 in
theorem walk {v0 : Value} {x0 : Nat} {w : World} (h0 : RawBy w v0 x0) :
    Calls Try.prog 4 #[v0] w fun e w' => e = .returned (.bool true) ∧ Ext w w' := by
  have H0 := Lib.hid h0
  obtain ⟨bb, hbb⟩ : ∃ bb, decide (4096 < x0) = bb := ⟨_, rfl⟩
  have HBB := Lib.hid hbb
  obtain ⟨i0, hii, hiz, his, hib⟩ := info_parts int64_info
  clear h0 hbb
  go_enter Try.func4, Try.ntmps4
  go_wp2_with fail
  (with_reducible refine (c_big HBB.out H0.out).mono ?_)
  rintro e w1 ⟨rfl, hE1⟩
  cases bb with
  | true =>
    go_wp2
    go_ret
    exact ⟨rfl, hE1⟩
  | false =>
    have hx : x0 ≤ 4096 := by have := HBB.out; simpa using this
    have H1 := Lib.hid (show RawBy w1 v0 x0 from by
      obtain ⟨A, c, e, h1, h2⟩ := H0.out
      refine ⟨A, c, e, h1, fun h => ?_⟩
      obtain ⟨b, o, e2, h3⟩ := h2 h
      exact ⟨b, o, e2, fun j hj => by obtain ⟨y, h4, h5⟩ := h3 j hj; exact ⟨y, Ext.keep hE1 h4, h5⟩⟩)
    go_wp2_with fail
    (with_reducible refine (c_roll H1.out hx).mono ?_)
    rintro e w2 ⟨g, rfl, hD2, hg2, hE2⟩
    have hE02 : Ext w w2 := Ext.trans hE1 hE2
    have hgw : w.heap.size ≤ g := by have := hE1.size; omega
    go_wp2_with fail
    (with_reducible refine (c_w9Sig).mono ?_)
    rintro e w3 ⟨AS, nS, cS, rfl, hO3, hE3⟩
    have hnS : nS = 3 := hO3.len.symm
    subst hnS
    have hg3 := hD2.lt
    have hs3 := hE3.size
    have HD3 := Lib.hid ((hD2.ext hE3).ext ((Ext.refl w3).alloc (.cells #[.slice AS 3 cS] 29)))
    have HS3 := Lib.hid (show RIg (w3.alloc (.cells #[.slice AS 3 cS] 29)) g AS 3 ar3 from RIg.ext (RIg.of hO3 hg3) ((Ext.refl w3).alloc _))
    have hb3 : (w3.alloc (.cells #[.slice AS 3 cS] 29)).cell? ⟨w3.heap.size, 0, none⟩ = some (.slice AS 3 cS) := by simp [go_sem]
    have hsg : w3.heap.size ≠ g := by omega
    have hE03 : Ext w (w3.alloc (.cells #[.slice AS 3 cS] 29)) := (Ext.trans hE02 hE3).alloc _
    clear hO3
    go_wp2_with fail
    (with_reducible refine (c_w9Weights HD3.out).mono ?_)
    rintro e w4 ⟨SA, SB, W, rfl, hSA, hSB, hW, hD4, hO4⟩
    have HW := Lib.hid hW
    have hs4 := hO4.size
    simp only [World.size_alloc] at hs4
    have hg4 := hD4.lt
    have hE04 : Ext w w4 := hO4.ext hE03 hgw
    have hb4 : w4.cell? ⟨w3.heap.size, 0, none⟩ = some (.slice AS 3 cS) := cell_only hO4 hsg hb3
    obtain ⟨w5, hw5⟩ : ∃ w5, w5 = w4.alloc (.cells #[.int .i64 W.var, .slice SA 3 3, .slice SB 3 3] 48) := ⟨_, rfl⟩
    have hE45 : Ext w4 w5 := by rw [hw5]; (repeat' (first | (with_reducible exact Ext.refl _) | (with_reducible assumption) | (with_reducible refine Ext.alloc ?_ _) | (with_reducible refine Ext.set ?_ ?_ _) | (with_reducible refine Ext.drewN ?_ _) | (with_reducible refine Ext.drew ?_) | (with_reducible refine Ext.trans ?_ (by with_reducible assumption)) | go_size))
    have HS5 := Lib.hid (RIg.ext (HS3.out.only hO4) hE45)
    have HA5 := Lib.hid (RIg.ext hSA hE45)
    have HB5 := Lib.hid (RIg.ext hSB hE45)
    have HD5 := Lib.hid (hD4.ext hE45)
    have hE05 : Ext w w5 := Ext.trans hE04 hE45
    have hb5 : w5.cell? ⟨w3.heap.size, 0, none⟩ = some (.slice AS 3 cS) := Ext.keep hE45 hb4
    have hc0 : w5.cell? ⟨w4.heap.size, 0, none⟩ = some (.int .i64 W.var) := by rw [hw5]; simp [go_sem]
    have hc1 : w5.cell? ⟨w4.heap.size, 1, none⟩ = some (.slice SA 3 3) := by rw [hw5]; simp [go_sem]
    have hc2 : w5.cell? ⟨w4.heap.size, 2, none⟩ = some (.slice SB 3 3) := by rw [hw5]; simp [go_sem]
    have hs5 : w4.heap.size < w5.heap.size := by rw [hw5]; simp
    clear hSA hSB hD4 hW
    go_wp2_with fail
    rw [← hw5]
    clear hw5
    (with_reducible refine (c_w9Term (g := g) (vars := 2) (by omega) (by omega) 2 (by omega) 3 (by omega) HD5.out).mono ?_)
    rintro e w6 ⟨TA, na, ca, a, rfl, hOa, oka, ga, hna, hD6, hO6⟩
    have hs6 := hO6.size
    have hcapA := hOa.cap
    have hlenA := hOa.len
    have HTA := Lib.hid (RIg.of hOa (by omega : g < w5.heap.size))
    have HD6 := Lib.hid hD6
    have hE06 : Ext w w6 := hO6.ext hE05 hgw
    clear hOa hD6
    go_wp2_with fail
    (with_reducible refine (c_w9Term (g := g) (vars := 2) (by omega) (by omega) 2 (by omega) 3 (by omega) HD6.out).mono ?_)
    rintro e w7 ⟨TB, nb, cb, b, rfl, hOb, okb, gb, hnb, hD7, hO7⟩
    have hcapB := hOb.cap
    have hlenB := hOb.len
    have hE07 : Ext w w7 := hO7.ext hE06 hgw
    have hO57 : Only w5 w7 g := hO6.trans hO7
    have HTB := Lib.hid (RIg.of hOb (by omega : g < w6.heap.size))
    have HG7 := Lib.hid (show ThereG w7 g w3.heap.size w4.heap.size AS SA SB TA TB cS na ca nb cb W a b from
      ⟨⟨cell_only hO57 hsg hb5, cell_only hO57 (by omega) hc0, cell_only hO57 (by omega) hc1, cell_only hO57 (by omega) hc2, (HS5.out.only hO57).1, (HA5.out.only hO57).1, (HB5.out.only hO57).1, (HTA.out.only hO7).1, HTB.out.1⟩,
        hsg, by omega, HS5.out.2, HA5.out.2, HB5.out.2, HTA.out.2, HTB.out.2⟩)
    have hna7 : na ≤ 7 := hna
    have hnb7 : nb ≤ 7 := hnb
    have HPA := Lib.hid (term3 oka (by omega) (fun x hx => by have := ga x hx; omega))
    have HPB := Lib.hid (term3 okb (by omega) (fun x hx => by have := gb x hx; omega))
    have HGA := Lib.hid ga
    have HGB := Lib.hid gb
    have HOA := Lib.hid oka
    have HOB := Lib.hid okb
    have HLA := Lib.hid hlenA
    have HLB := Lib.hid hlenB
    have HD7 := Lib.hid hD7
    obtain ⟨sp, hsp⟩ : ∃ sp, sp = w3.heap.size := ⟨_, rfl⟩
    obtain ⟨qp, hqp⟩ : ∃ qp, qp = w4.heap.size := ⟨_, rfl⟩
    clear ga gb oka okb hlenA hlenB hOb hO57 hD7
    go_wp2_with fail
    rw [← hsp, ← hqp] at HG7 ⊢
    clear hsp hqp hb5 hc0 hc1 hc2 hb4 hb3 HS5 HA5 HB5 HTA HTB HD5 HD6 HS3 HD3 hO4 hO6 hO7 hsg
    (with_reducible refine (c_w9Subst HD7.out).mono ?_)
    rintro e w8 ⟨UA, un, uc, σ, rfl, hU, hσ, hD8, hO8⟩
    have HU := Lib.hid hU
    have HSU := Lib.hid hσ
    have HG8 := Lib.hid (HG7.out.only hO8)
    have hE08 : Ext w w8 := hO8.ext hE07 hgw
    obtain ⟨w9, hw9⟩ : ∃ w9, w9 = w8.alloc (.cells #[.slice UA un uc] 36) := ⟨_, rfl⟩
    have hE89 : Ext w8 w9 := by rw [hw9]; (repeat' (first | (with_reducible exact Ext.refl _) | (with_reducible assumption) | (with_reducible refine Ext.alloc ?_ _) | (with_reducible refine Ext.set ?_ ?_ _) | (with_reducible refine Ext.drewN ?_ _) | (with_reducible refine Ext.drew ?_) | (with_reducible refine Ext.trans ?_ (by with_reducible assumption)) | go_size))
    have hu9 : w9.cell? ⟨w8.heap.size, 0, none⟩ = some (.slice UA un uc) := by rw [hw9]; simp [go_sem]
    have HG9 := Lib.hid (HG8.out.ext hE89)
    have HU9 := Lib.hid (RSg.ext HU.out hE89)
    have HD9 := Lib.hid (hD8.ext hE89)
    have hg9 := HD9.out.lt
    have hE09 : Ext w w9 := Ext.trans hE08 hE89
    have t0 : w8.cell? ⟨sp, 0, none⟩ = some (.slice AS 3 cS) := HG8.out.th.s0
    have hl8 : sp < w8.heap.size := World.block_lt_of_cell? w8 _ t0
    obtain ⟨oa, hoa⟩ : ∃ oa, fillO σ a.flat = oa := ⟨_, rfl⟩
    obtain ⟨ob, hob⟩ : ∃ ob, fillO σ b.flat = ob := ⟨_, rfl⟩
    have HOAA := Lib.hid hoa
    have HOBB := Lib.hid hob
    clear hU hσ hD8 hO8 hoa hob HG7 HG8 HU HD7
    go_wp2_with fail
    rw [← hw9]
    clear hw9
    (with_reducible refine (c_Filled HOAA.out HSU.out HPA.out (RdSig.mk HG9.out.th.sg) (RdSub.mk HU9.out) HG9.out.th.ta).mono ?_)
    rintro e w10 ⟨FA, fa, cfa, rfl, hFA, hE10⟩
    have hcapFA := hFA.cap
    have HFA10 := Lib.hid (RIg.of hFA (by omega : g < w9.heap.size))
    have HG10 := Lib.hid (HG9.out.ext hE10)
    have HU10 := Lib.hid (RSg.ext HU9.out hE10)
    have HD10 := Lib.hid (HD9.out.ext hE10)
    have hu10 := Ext.keep hE10 hu9
    have t1 := HG10.out.th.s0
    have hg10 := HD10.out.lt
    clear hFA t0 HG9 HU9 HD9 hu9
    go_wp2_with fail
    (with_reducible refine (c_Filled HOBB.out HSU.out HPB.out (RdSig.mk HG10.out.th.sg) (RdSub.mk HU10.out) HG10.out.th.tb).mono ?_)
    rintro e w13 ⟨FB, fb, cfb, rfl, hFB, hE13⟩
    have hcapFB := hFB.cap
    have HFB13 := Lib.hid (RIg.of hFB (by omega : g < w10.heap.size))
    have HFA13 := Lib.hid (RIg.ext HFA10.out hE13)
    have HG13 := Lib.hid (HG10.out.ext hE13)
    have HD13 := Lib.hid (HD10.out.ext hE13)
    have hE013 : Ext w w13 := Ext.trans hE09 (Ext.trans hE10 hE13)
    have hg13 := HD13.out.lt
    clear hFB t1 HG10 HU10 HD10 hu10 HFA10
    go_wp2_with fail
    (with_reducible refine (c_w9Term (g := g) (vars := 1) (by omega) (by omega) 1 (by omega) 2 (by omega) (HD13.out.ext ((Ext.refl w13).alloc _))).mono ?_)
    rintro e w14 ⟨UT, nu, cu, u, rfl, hOu, oku, gu, hnu, hD14, hO14⟩
    have hlenU := hOu.len
    have HOU := Lib.hid oku
    have HGU := Lib.hid gu
    have HLU := Lib.hid hlenU
    have hnu3 : nu ≤ 3 := hnu
    have hs14 := hO14.size
    have hE13a : Ext w13 (w13.alloc (.cells #[.int .i64 0] 2)) := (Ext.refl w13).alloc _
    have HF13 := Lib.hid (OwI.fresh (w := w13) [0] (by simp))
    have HF14 := Lib.hid (HF13.out.only hO14 hg13)
    have HRU := Lib.hid hOu.ri
    have HG14 := Lib.hid ((HG13.out.ext hE13a).only hO14)
    have HFA14 := Lib.hid ((RIg.ext HFA13.out hE13a).only hO14)
    have HFB14 := Lib.hid ((RIg.ext HFB13.out hE13a).only hO14)
    have hE014 : Ext w w14 := hO14.ext (Ext.trans hE013 hE13a) hgw
    clear hOu oku gu hlenU hD14 HG13 HFA13 HFB13 HD13 HF13
    go_wp2_with (at_builtin; go_loud (refine wpList_append_full rfl (.tmp 42) (.tmp 44) 27 rfl i0 Try.underlying27 hii hiz his hib rfl HF14.out.ri rfl HRU.out (by have := flat_pos u; have := HLU.out; omega) (by omega) ?_))
    intro RA rc w15 hO15 hE15
    have hcapR := hO15.cap
    have HG15 := Lib.hid (HG14.out.th.ext hE15)
    have HRA15 := Lib.hid (show RI w15 RA (1 + nu) (0 :: u.flat) by simpa using hO15.ri)
    have HFA15 := Lib.hid (RI.ext HFA14.out.1 hE15)
    have HFB15 := Lib.hid (RI.ext HFB14.out.1 hE15)
    have hE015 : Ext w w15 := Ext.trans hE014 hE15
    clear hO15 HG14 HFA14 HFB14 HRU HF14 hE13a hO14
    obtain ⟨b1, hb1⟩ : ∃ x, kboLess ar3 W a.flat b.flat = x := ⟨_, rfl⟩
    have HB1 := Lib.hid hb1
    have hk1 : b1 = decide (0 < kbo ar3 W a b) := by rw [← hb1]; exact kboLess3 HW.out HPA.out HPB.out HOA.out HOB.out
    obtain ⟨y, hy⟩ : ∃ y, kboAns ar3 W a.flat b.flat = y := ⟨_, rfl⟩
    have HY := Lib.hid hy
    have hy2 : y = kbo ar3 W a b := by rw [← hy]; unfold kboAns; rw [if_pos ⟨wtOk_iff.2 HW.out, termOk_iff.2 HPA.out, termOk_iff.2 HPB.out⟩, tmOf_flat HOA.out, tmOf_flat HOB.out]
    have HK1 := Lib.hid hk1
    have HY2 := Lib.hid hy2
    have HSS := Lib.hid (show kboLess ar3 W a.flat a.flat = false by rw [kboLess3 HW.out HPA.out HPA.out HOA.out HOA.out]; simpa using kbo_irr a)
    have HWO := Lib.hid (wtOk_iff.2 HW.out)
    have q0 := HG15.out.s0
    have q0b := HG15.out.q0
    have q0c := HG15.out.q1
    have q0d := HG15.out.q2
    clear hb1 hk1 hy hy2
    go_wp2_with fail
    (with_reducible refine (c_kboLessB HB1.out (RdSig.mk HG15.out.sg) (RdWt.mk HG15.out.sy HG15.out.rk) (RdIc.mk hcapA HG15.out.ta) (RdIc.mk hcapB HG15.out.tb)).mono ?_)
    rintro e w16 ⟨rfl, hE16⟩
    have HG16 := Lib.hid (HG15.out.ext hE16)
    have q1 := HG16.out.s0
    have q1b := HG16.out.q0
    have q1c := HG16.out.q1
    have q1d := HG16.out.q2
    go_wp2_with fail
    (with_reducible refine (c_weightsOkB HWO.out (RdSig.mk HG16.out.sg) (RdWt.mk HG16.out.sy HG16.out.rk)).mono ?_)
    rintro e w17 ⟨rfl, hE17⟩
    have HG17 := Lib.hid (HG16.out.ext hE17)
    have q2 := HG17.out.s0
    have q2b := HG17.out.q0
    have q2c := HG17.out.q1
    have q2d := HG17.out.q2
    cases b1 with
    | false =>
      have hk0 : ¬ 0 < kbo ar3 W a b := by have := HK1.out; simpa using this.symm
      have hyn : ¬ y > 0 := by rw [HY2.out]; exact hk0
      have hyd : decide (0 < y) = false := by simpa using hyn
      clear hk0
      go_wp2_with fail
      (with_reducible refine (c_kboLessB HSS.out (RdSig.mk HG17.out.sg) (RdWt.mk HG17.out.sy HG17.out.rk) (RdIc.mk hcapA HG17.out.ta) (RdIc.mk hcapA HG17.out.ta)).mono ?_)
      rintro e w18 ⟨rfl, hE18⟩
      have HG18 := Lib.hid (HG17.out.ext hE18)
      have q3 := HG18.out.s0
      have q3b := HG18.out.q0
      have q3c := HG18.out.q1
      have q3d := HG18.out.q2
      go_wp2_with fail
      (with_reducible refine (c_kboWhyB HY.out (RdSig.mk HG18.out.sg) (RdWt.mk HG18.out.sy HG18.out.rk) (RdIc.mk hcapA HG18.out.ta) (RdIc.mk hcapB HG18.out.tb)).mono ?_)
      rintro e w19 ⟨rfl, hE19⟩
      go_wp2_with fail
      go_ret
      exact ⟨rfl, Ext.trans hE015 (Ext.trans hE16 (Ext.trans hE17 (Ext.trans hE18 hE19)))⟩
    | true =>
      have hk0 : 0 < kbo ar3 W a b := by have := HK1.out; simpa using this.symm
      have hyn : y > 0 := by rw [HY2.out]; exact hk0
      have hyd : decide (0 < y) = true := by simpa using hyn
      have HK0 := Lib.hid hk0
      have HTS := Lib.hid (show kboLess ar3 W b.flat a.flat = false by rw [kboLess3 HW.out HPB.out HPA.out HOB.out HOA.out]; simpa using kbo_asym a b hk0)
      have HOFT := Lib.hid (show oftenIn ar3 a.flat b.flat = true by unfold oftenIn; rw [termOk_iff.2 HPA.out, termOk_iff.2 HPB.out, (kbo_wt hk0).1]; rfl)
      have hln : nu + na ≤ 50 ∧ nu + nb ≤ 50 := by omega
      have HCA := Lib.hid (show (Tm.node 0 [u, a]).flat = (0 :: u.flat) ++ a.flat by rw [(both_ok HOU.out HOA.out).2]; rfl)
      have HCB := Lib.hid (show (Tm.node 0 [u, b]).flat = (0 :: u.flat) ++ b.flat by rw [(both_ok HOU.out HOB.out).2]; rfl)
      have HCL := Lib.hid (show kboLess ar3 W (Tm.node 0 [u, a]).flat (Tm.node 0 [u, b]).flat = true from inside_less HW.out HOU.out HOA.out HOB.out
        (term3 (both_ok HOU.out HOA.out).1 (by rw [HCA.out]; simp [HLU.out, HLA.out]; omega) (fun z hz => by
          rw [HCA.out] at hz
          rcases List.mem_append.1 hz with hz | hz
          · rcases List.mem_cons.1 hz with rfl | hz
            · omega
            · have := HGU.out z hz; omega
          · have := HGA.out z hz; omega))
        (term3 (both_ok HOU.out HOB.out).1 (by rw [HCB.out]; simp [HLU.out, HLB.out]; omega) (fun z hz => by
          rw [HCB.out] at hz
          rcases List.mem_append.1 hz with hz | hz
          · rcases List.mem_cons.1 hz with rfl | hz
            · omega
            · have := HGU.out z hz; omega
          · have := HGB.out z hz; omega)) hk0)
      clear hk0
      go_wp2_with fail
      (with_reducible refine (c_kboLessB HTS.out (RdSig.mk HG17.out.sg) (RdWt.mk HG17.out.sy HG17.out.rk) (RdIc.mk hcapB HG17.out.tb) (RdIc.mk hcapA HG17.out.ta)).mono ?_)
      rintro e w20 ⟨rfl, hE20⟩
      have HG20 := Lib.hid (HG17.out.ext hE20)
      have q3 := HG20.out.s0
      have q3b := HG20.out.q0
      have q3c := HG20.out.q1
      have q3d := HG20.out.q2
      go_wp2_with fail
      (with_reducible refine (c_kboLessB HSS.out (RdSig.mk HG20.out.sg) (RdWt.mk HG20.out.sy HG20.out.rk) (RdIc.mk hcapA HG20.out.ta) (RdIc.mk hcapA HG20.out.ta)).mono ?_)
      rintro e w18 ⟨rfl, hE18⟩
      have HG18 := Lib.hid (HG20.out.ext hE18)
      have q4 := HG18.out.s0
      have q4b := HG18.out.q0
      have q4c := HG18.out.q1
      have q4d := HG18.out.q2
      go_wp2_with fail
      (with_reducible refine (c_kboWhyB HY.out (RdSig.mk HG18.out.sg) (RdWt.mk HG18.out.sy HG18.out.rk) (RdIc.mk hcapA HG18.out.ta) (RdIc.mk hcapB HG18.out.tb)).mono ?_)
      rintro e w11 ⟨rfl, hE11⟩
      have hE1511 : Ext w15 w11 := Ext.trans hE16 (Ext.trans hE17 (Ext.trans hE20 (Ext.trans hE18 hE11)))
      have HT := Lib.hid (HG18.out.ext hE11)
      have HRA := Lib.hid (RI.ext HRA15.out hE1511)
      have HFA := Lib.hid (RI.ext HFA15.out hE1511)
      have HFB := Lib.hid (RI.ext HFB15.out hE1511)
      have hE011 : Ext w w11 := Ext.trans hE015 hE1511
      obtain ⟨rn, hrn⟩ : ∃ rn, rn = 1 + nu := ⟨_, rfl⟩
      have hrn3 : rn ≤ 4 ∧ 1 ≤ rn := by omega
      rw [← hrn] at HRA
      clear q0 q0b q0c q0d q1 q1b q1c q1d q2 q2b q2c q2d q3 q3b q3c q3d q4 q4b q4c q4d HG15 HG16 HG17 HG18 HG20 HRA15 HFA15 HFB15
      cases oa with
      | none =>
        go_wp2_with fail
        rw [← hrn]
        clear hrn
        refine wp_only (R := fun (a0 : Act) (a8 : Act) (w9 : World) => ∃ (qa : Nat) (qb : Nat) (A24 : Option Addr) (c24 : Nat) (A26 : Option Addr) (c26 : Nat) (A29 : Option Addr) (c29 : Nat) (A31 : Option Addr) (c31 : Nat), a8 = (((((((((((((((((((((((((((((((((((a0.put (some 84) (.agg #[.slice AS 3 cS])).put (some 85) (.slice TA na ca)).put (some 86) (.slice TB nb cb)).put (some 87) (.bool true)).put (some 88) (.bool true)).put (some 89) (.bool false)).put (some 90) (.bool true)).put (some 91) (.bool true)).put (some 92) (undef)).put (some 93) (undef)).put (some 94) (.bool true)).put (some 95) (.bool true)).put (some 96) (undef)).put (some 97) (undef)).put (some 98) (undef)).put (some 99) (undef)).put (some 100) (undef)).put (some 101) (.bool true)).put (some 102) (.bool true)).put (some 103) (.bool true)).put (some 104) (.agg #[.slice AS 3 cS])).put (some 105) (.agg #[.int .i64 W.var, .slice SA 3 3, .slice SB 3 3])).put (some 107) (.slice RA rn rc)).put (some 109) (.slice TA na ca)).put (some 112) (.slice RA rn rc)).put (some 114) (.slice TB nb cb)).put (some 106) (.slice (some ⟨qa, 0, none⟩) 0 0)).put (some 111) (.slice (some ⟨qb, 0, none⟩) 0 0)).put (some 108) (.slice A24 rn c24)).put (some 110) (.slice A26 (rn + na) c26)).put (some 113) (.slice A29 rn c29)).put (some 115) (.slice A31 (rn + nb) c31)).put (some 116) (.bool true)).put (some 117) (.bool true)).put (some 2) (.bool true)) ∧ Ext w11 w9) ?_ (fun a8 w12 hR => ?_)
        · refine wp_region_held_drew (S := (fun w' => Ext w11 w')) (by kernel_rfl) ((Ext.refl w11).drew) (fun hH => ?_)
          refine wpAnyH_take_dst (i := 0) (v := .agg #[.slice AS 3 cS]) (d := some 84) rfl rfl (by kernel_rfl) (by kernel_rfl) (by kernel_rfl) (fun _ _ _ h => h) (Or.inl ⟨by rfl, ?_⟩) hH ?_
          · (intro w' hE'; (try dsimp only at hE'); have y0 := Ext.keep hE' HT.out.s0; have y1 := Ext.keep hE' HT.out.q0; have y2 := Ext.keep hE' HT.out.q1; have y3 := Ext.keep hE' HT.out.q2; go_simp; try with_reducible rfl)
          try simp only [Act.put, List.setIfInBounds_toArray, List.set_cons_zero, List.set_cons_succ]
          refine wpAnyH_take_dst (i := 1) (v := .slice TA na ca) (d := some 85) rfl rfl (by kernel_rfl) (by kernel_rfl) (by kernel_rfl) (fun _ _ _ h => h) (Or.inl ⟨by rfl, ?_⟩) hH ?_
          · (intro w' hE'; (try dsimp only at hE'); have y0 := Ext.keep hE' HT.out.s0; have y1 := Ext.keep hE' HT.out.q0; have y2 := Ext.keep hE' HT.out.q1; have y3 := Ext.keep hE' HT.out.q2; go_simp; try with_reducible rfl)
          try simp only [Act.put, List.setIfInBounds_toArray, List.set_cons_zero, List.set_cons_succ]
          refine wpAnyH_take_dst (i := 2) (v := .slice TB nb cb) (d := some 86) rfl rfl (by kernel_rfl) (by kernel_rfl) (by kernel_rfl) (fun _ _ _ h => h) (Or.inl ⟨by rfl, ?_⟩) hH ?_
          · (intro w' hE'; (try dsimp only at hE'); have y0 := Ext.keep hE' HT.out.s0; have y1 := Ext.keep hE' HT.out.q0; have y2 := Ext.keep hE' HT.out.q1; have y3 := Ext.keep hE' HT.out.q2; go_simp; try with_reducible rfl)
          try simp only [Act.put, List.setIfInBounds_toArray, List.set_cons_zero, List.set_cons_succ]
          refine wpAnyH_ready (rs := [3]) (by kernel_rfl) (by simp) ?_
          refine AllReadyH.cons rfl (fun K hK => ?_) AllReadyH.nil
          rw [if_pos (by rfl)]
          go_wp2_with fail
          (with_reducible refine (c_oftenB HOFT.out (RdSig.mk (HT.out.ext hH).sg) (RdI.mk (HT.out.ext hH).ta) (RdI.mk (HT.out.ext hH).tb)).mono ?_)
          rintro e w9 ⟨rfl, hE9⟩
          refine hK.out _ _ (Ext.trans hH hE9) (fun hH9 => ?_)
          clear hK; have hH0 := hH; clear hH; have hH := hH9; clear hH9
          try simp only [Act.put, List.setIfInBounds_toArray, List.set_cons_zero, List.set_cons_succ]
          refine wpAnyH_take_dst (i := 4) (v := .bool true) (d := some 88) rfl rfl (by kernel_rfl) (by kernel_rfl) (by kernel_rfl) (fun _ _ _ h => h) (Or.inl ⟨by rfl, ?_⟩) hH ?_
          · (intro w' hE'; (try dsimp only at hE'); have y0 := Ext.keep hE' HT.out.s0; have y1 := Ext.keep hE' HT.out.q0; have y2 := Ext.keep hE' HT.out.q1; have y3 := Ext.keep hE' HT.out.q2; go_simp; try with_reducible rfl)
          try simp only [Act.put, List.setIfInBounds_toArray, List.set_cons_zero, List.set_cons_succ]
          refine wpAnyH_take_dst (i := 5) (v := .bool false) (d := some 89) rfl rfl (by kernel_rfl) (by kernel_rfl) (by kernel_rfl) (fun _ _ _ h => h) (Or.inl ⟨by rfl, ?_⟩) hH ?_
          · (intro w' hE'; (try dsimp only at hE'); have y0 := Ext.keep hE' HT.out.s0; have y1 := Ext.keep hE' HT.out.q0; have y2 := Ext.keep hE' HT.out.q1; have y3 := Ext.keep hE' HT.out.q2; go_simp; try with_reducible rfl)
          try simp only [Act.put, List.setIfInBounds_toArray, List.set_cons_zero, List.set_cons_succ]
          refine wpAnyH_take_dst (i := 6) (v := .bool true) (d := some 90) rfl rfl (by kernel_rfl) (by kernel_rfl) (by kernel_rfl) (fun _ _ _ h => h) (Or.inl ⟨by rfl, ?_⟩) hH ?_
          · (intro w' hE'; (try dsimp only at hE'); have y0 := Ext.keep hE' HT.out.s0; have y1 := Ext.keep hE' HT.out.q0; have y2 := Ext.keep hE' HT.out.q1; have y3 := Ext.keep hE' HT.out.q2; go_simp; try with_reducible rfl)
          try simp only [Act.put, List.setIfInBounds_toArray, List.set_cons_zero, List.set_cons_succ]
          refine wpAnyH_take_dst (i := 7) (v := .bool true) (d := some 91) rfl rfl (by kernel_rfl) (by kernel_rfl) (by kernel_rfl) (fun _ _ _ h => h) (Or.inl ⟨by rfl, ?_⟩) hH ?_
          · (intro w' hE'; (try dsimp only at hE'); have y0 := Ext.keep hE' HT.out.s0; have y1 := Ext.keep hE' HT.out.q0; have y2 := Ext.keep hE' HT.out.q1; have y3 := Ext.keep hE' HT.out.q2; go_simp; try with_reducible rfl)
          try simp only [Act.put, List.setIfInBounds_toArray, List.set_cons_zero, List.set_cons_succ]
          refine wpAnyH_take_dst (i := 8) (v := undef) (d := some 92) rfl rfl (by kernel_rfl) (by kernel_rfl) (by kernel_rfl) (fun _ _ _ h => h) (Or.inr ⟨by rfl, rfl⟩) hH ?_
          try simp only [Act.put, List.setIfInBounds_toArray, List.set_cons_zero, List.set_cons_succ]
          refine wpAnyH_take_dst (i := 9) (v := undef) (d := some 93) rfl rfl (by kernel_rfl) (by kernel_rfl) (by kernel_rfl) (fun _ _ _ h => h) (Or.inr ⟨by rfl, rfl⟩) hH ?_
          try simp only [Act.put, List.setIfInBounds_toArray, List.set_cons_zero, List.set_cons_succ]
          refine wpAnyH_take_dst (i := 10) (v := .bool true) (d := some 94) rfl rfl (by kernel_rfl) (by kernel_rfl) (by kernel_rfl) (fun _ _ _ h => h) (Or.inl ⟨by rfl, ?_⟩) hH ?_
          · (intro w' hE'; (try dsimp only at hE'); have y0 := Ext.keep hE' HT.out.s0; have y1 := Ext.keep hE' HT.out.q0; have y2 := Ext.keep hE' HT.out.q1; have y3 := Ext.keep hE' HT.out.q2; go_simp; try with_reducible rfl)
          try simp only [Act.put, List.setIfInBounds_toArray, List.set_cons_zero, List.set_cons_succ]
          refine wpAnyH_take_dst (i := 11) (v := .bool true) (d := some 95) rfl rfl (by kernel_rfl) (by kernel_rfl) (by kernel_rfl) (fun _ _ _ h => h) (Or.inl ⟨by rfl, ?_⟩) hH ?_
          · (intro w' hE'; (try dsimp only at hE'); have y0 := Ext.keep hE' HT.out.s0; have y1 := Ext.keep hE' HT.out.q0; have y2 := Ext.keep hE' HT.out.q1; have y3 := Ext.keep hE' HT.out.q2; go_simp; try with_reducible rfl)
          try simp only [Act.put, List.setIfInBounds_toArray, List.set_cons_zero, List.set_cons_succ]
          refine wpAnyH_take_dst (i := 12) (v := undef) (d := some 96) rfl rfl (by kernel_rfl) (by kernel_rfl) (by kernel_rfl) (fun _ _ _ h => h) (Or.inr ⟨by rfl, rfl⟩) hH ?_
          try simp only [Act.put, List.setIfInBounds_toArray, List.set_cons_zero, List.set_cons_succ]
          refine wpAnyH_take_dst (i := 13) (v := undef) (d := some 97) rfl rfl (by kernel_rfl) (by kernel_rfl) (by kernel_rfl) (fun _ _ _ h => h) (Or.inr ⟨by rfl, rfl⟩) hH ?_
          try simp only [Act.put, List.setIfInBounds_toArray, List.set_cons_zero, List.set_cons_succ]
          refine wpAnyH_take_dst (i := 14) (v := undef) (d := some 98) rfl rfl (by kernel_rfl) (by kernel_rfl) (by kernel_rfl) (fun _ _ _ h => h) (Or.inr ⟨by rfl, rfl⟩) hH ?_
          try simp only [Act.put, List.setIfInBounds_toArray, List.set_cons_zero, List.set_cons_succ]
          refine wpAnyH_take_dst (i := 15) (v := undef) (d := some 99) rfl rfl (by kernel_rfl) (by kernel_rfl) (by kernel_rfl) (fun _ _ _ h => h) (Or.inr ⟨by rfl, rfl⟩) hH ?_
          try simp only [Act.put, List.setIfInBounds_toArray, List.set_cons_zero, List.set_cons_succ]
          refine wpAnyH_take_dst (i := 16) (v := undef) (d := some 100) rfl rfl (by kernel_rfl) (by kernel_rfl) (by kernel_rfl) (fun _ _ _ h => h) (Or.inr ⟨by rfl, rfl⟩) hH ?_
          try simp only [Act.put, List.setIfInBounds_toArray, List.set_cons_zero, List.set_cons_succ]
          refine wpAnyH_take_dst (i := 17) (v := .bool true) (d := some 101) rfl rfl (by kernel_rfl) (by kernel_rfl) (by kernel_rfl) (fun _ _ _ h => h) (Or.inl ⟨by rfl, ?_⟩) hH ?_
          · (intro w' hE'; (try dsimp only at hE'); have y0 := Ext.keep hE' HT.out.s0; have y1 := Ext.keep hE' HT.out.q0; have y2 := Ext.keep hE' HT.out.q1; have y3 := Ext.keep hE' HT.out.q2; go_simp; try with_reducible rfl)
          try simp only [Act.put, List.setIfInBounds_toArray, List.set_cons_zero, List.set_cons_succ]
          refine wpAnyH_take_dst (i := 18) (v := .bool true) (d := some 102) rfl rfl (by kernel_rfl) (by kernel_rfl) (by kernel_rfl) (fun _ _ _ h => h) (Or.inl ⟨by rfl, ?_⟩) hH ?_
          · (intro w' hE'; (try dsimp only at hE'); have y0 := Ext.keep hE' HT.out.s0; have y1 := Ext.keep hE' HT.out.q0; have y2 := Ext.keep hE' HT.out.q1; have y3 := Ext.keep hE' HT.out.q2; go_simp; try with_reducible rfl)
          try simp only [Act.put, List.setIfInBounds_toArray, List.set_cons_zero, List.set_cons_succ]
          refine wpAnyH_take_dst (i := 19) (v := .bool true) (d := some 103) rfl rfl (by kernel_rfl) (by kernel_rfl) (by kernel_rfl) (fun _ _ _ h => h) (Or.inl ⟨by rfl, ?_⟩) hH ?_
          · (intro w' hE'; (try dsimp only at hE'); have y0 := Ext.keep hE' HT.out.s0; have y1 := Ext.keep hE' HT.out.q0; have y2 := Ext.keep hE' HT.out.q1; have y3 := Ext.keep hE' HT.out.q2; go_simp; try with_reducible rfl)
          try simp only [Act.put, List.setIfInBounds_toArray, List.set_cons_zero, List.set_cons_succ]
          refine wpAnyH_take_dst (i := 20) (v := .agg #[.slice AS 3 cS]) (d := some 104) rfl rfl (by kernel_rfl) (by kernel_rfl) (by kernel_rfl) (fun _ _ _ h => h) (Or.inl ⟨by rfl, ?_⟩) hH ?_
          · (intro w' hE'; (try dsimp only at hE'); have y0 := Ext.keep hE' HT.out.s0; have y1 := Ext.keep hE' HT.out.q0; have y2 := Ext.keep hE' HT.out.q1; have y3 := Ext.keep hE' HT.out.q2; go_simp; try with_reducible rfl)
          try simp only [Act.put, List.setIfInBounds_toArray, List.set_cons_zero, List.set_cons_succ]
          refine wpAnyH_take_dst (i := 21) (v := .agg #[.int .i64 W.var, .slice SA 3 3, .slice SB 3 3]) (d := some 105) rfl rfl (by kernel_rfl) (by kernel_rfl) (by kernel_rfl) (fun _ _ _ h => h) (Or.inl ⟨by rfl, ?_⟩) hH ?_
          · (intro w' hE'; (try dsimp only at hE'); have y0 := Ext.keep hE' HT.out.s0; have y1 := Ext.keep hE' HT.out.q0; have y2 := Ext.keep hE' HT.out.q1; have y3 := Ext.keep hE' HT.out.q2; go_simp; try with_reducible rfl)
          try simp only [Act.put, List.setIfInBounds_toArray, List.set_cons_zero, List.set_cons_succ]
          refine wpAnyH_take_dst (i := 23) (v := .slice RA rn rc) (d := some 107) rfl rfl (by kernel_rfl) (by kernel_rfl) (by kernel_rfl) (fun _ _ _ h => h) (Or.inl ⟨by rfl, ?_⟩) hH ?_
          · (intro w' hE'; (try dsimp only at hE'); have y0 := Ext.keep hE' HT.out.s0; have y1 := Ext.keep hE' HT.out.q0; have y2 := Ext.keep hE' HT.out.q1; have y3 := Ext.keep hE' HT.out.q2; go_simp; try with_reducible rfl)
          try simp only [Act.put, List.setIfInBounds_toArray, List.set_cons_zero, List.set_cons_succ]
          refine wpAnyH_take_dst (i := 25) (v := .slice TA na ca) (d := some 109) rfl rfl (by kernel_rfl) (by kernel_rfl) (by kernel_rfl) (fun _ _ _ h => h) (Or.inl ⟨by rfl, ?_⟩) hH ?_
          · (intro w' hE'; (try dsimp only at hE'); have y0 := Ext.keep hE' HT.out.s0; have y1 := Ext.keep hE' HT.out.q0; have y2 := Ext.keep hE' HT.out.q1; have y3 := Ext.keep hE' HT.out.q2; go_simp; try with_reducible rfl)
          try simp only [Act.put, List.setIfInBounds_toArray, List.set_cons_zero, List.set_cons_succ]
          refine wpAnyH_take_dst (i := 28) (v := .slice RA rn rc) (d := some 112) rfl rfl (by kernel_rfl) (by kernel_rfl) (by kernel_rfl) (fun _ _ _ h => h) (Or.inl ⟨by rfl, ?_⟩) hH ?_
          · (intro w' hE'; (try dsimp only at hE'); have y0 := Ext.keep hE' HT.out.s0; have y1 := Ext.keep hE' HT.out.q0; have y2 := Ext.keep hE' HT.out.q1; have y3 := Ext.keep hE' HT.out.q2; go_simp; try with_reducible rfl)
          try simp only [Act.put, List.setIfInBounds_toArray, List.set_cons_zero, List.set_cons_succ]
          refine wpAnyH_take_dst (i := 30) (v := .slice TB nb cb) (d := some 114) rfl rfl (by kernel_rfl) (by kernel_rfl) (by kernel_rfl) (fun _ _ _ h => h) (Or.inl ⟨by rfl, ?_⟩) hH ?_
          · (intro w' hE'; (try dsimp only at hE'); have y0 := Ext.keep hE' HT.out.s0; have y1 := Ext.keep hE' HT.out.q0; have y2 := Ext.keep hE' HT.out.q1; have y3 := Ext.keep hE' HT.out.q2; go_simp; try with_reducible rfl)
          try simp only [Act.put, List.setIfInBounds_toArray, List.set_cons_zero, List.set_cons_succ]
          refine wpAnyH_ready (rs := [22, 27]) (by kernel_rfl) (by simp) ?_
          refine AllReadyH.cons rfl (fun K hK => ?_) (AllReadyH.cons rfl (fun K hK => ?_) (AllReadyH.nil))
          · rw [if_pos (by rfl)]
            go_wp2_with fail
            refine hK.out _ _ (hH.alloc _) (fun hH9 => ?_)
            clear hK; have hH0 := hH; clear hH; have hH := hH9; clear hH9
            try simp only [Act.put, List.setIfInBounds_toArray, List.set_cons_zero, List.set_cons_succ]
            refine wpAnyH_ready (rs := [24, 27]) (by kernel_rfl) (by simp) ?_
            refine AllReadyH.cons rfl (fun K hK => ?_) (AllReadyH.cons rfl (fun K hK => ?_) (AllReadyH.nil))
            · rw [if_pos (by rfl)]
              have hH24 := hH; refine wp_append_fresh (.tmp 106) (.tmp 107) 27 rfl i0 Try.underlying27 hii hiz his hib rfl rfl (RI.ext HRA.out hH) (by omega) (fun A24 c24 w24 hO24 hE24 => ?_)
              refine hK.out _ _ (Ext.trans hH hE24) (fun hH9 => ?_)
              clear hK; have hH0 := hH; clear hH; have hH := hH9; clear hH9
              try simp only [Act.put, List.setIfInBounds_toArray, List.set_cons_zero, List.set_cons_succ]
              refine wpAnyH_ready (rs := [26, 27]) (by kernel_rfl) (by simp) ?_
              refine AllReadyH.cons rfl (fun K hK => ?_) (AllReadyH.cons rfl (fun K hK => ?_) (AllReadyH.nil))
              · rw [if_pos (by rfl)]
                have hs26 := hH24.size; have hO24b := OwI.lower (B' := w11.heap.size) hO24 hs26; have hc26 := hO24b.cap; refine wp_append_ints (.tmp 108) (.tmp 109) 27 rfl i0 Try.underlying27 hii hiz his hib (D := w11.heap.size) rfl hO24b rfl (RI.ext HT.out.ta hH) (by omega) hH.size hc26.1 (fun A26 c26 w26 hO26 hg26 hat26 => ?_); have hob26 := OwI.ob2 hO24b
                refine hK.out _ _ (Ext.grown hH hg26 (fun b hb => (hob26 b hb).1)) (fun hH9 => ?_)
                clear hK; have hH0 := hH; clear hH; have hH := hH9; clear hH9
                try simp only [Act.put, List.setIfInBounds_toArray, List.set_cons_zero, List.set_cons_succ]
                refine wpAnyH_ready (rs := [27]) (by kernel_rfl) (by simp) ?_
                refine AllReadyH.cons rfl (fun K hK => ?_) AllReadyH.nil
                rw [if_pos (by rfl)]
                go_wp2_with fail
                refine hK.out _ _ (hH.alloc _) (fun hH9 => ?_)
                clear hK; have hH0 := hH; clear hH; have hH := hH9; clear hH9
                try simp only [Act.put, List.setIfInBounds_toArray, List.set_cons_zero, List.set_cons_succ]
                refine wpAnyH_ready (rs := [29]) (by kernel_rfl) (by simp) ?_
                refine AllReadyH.cons rfl (fun K hK => ?_) AllReadyH.nil
                rw [if_pos (by rfl)]
                have hH29 := hH; have hO26b := (OwI.alloc hO26 (.cells #[] 2)).ri; have hc26 := hO26.cap; refine wp_append_fresh (.tmp 111) (.tmp 112) 27 rfl i0 Try.underlying27 hii hiz his hib rfl rfl (RI.ext HRA.out hH) (by omega) (fun A29 c29 w29 hO29 hE29 => ?_)
                refine hK.out _ _ (Ext.trans hH hE29) (fun hH9 => ?_)
                clear hK; have hH0 := hH; clear hH; have hH := hH9; clear hH9
                try simp only [Act.put, List.setIfInBounds_toArray, List.set_cons_zero, List.set_cons_succ]
                refine wpAnyH_ready (rs := [31]) (by kernel_rfl) (by simp) ?_
                refine AllReadyH.cons rfl (fun K hK => ?_) AllReadyH.nil
                rw [if_pos (by rfl)]
                have hc29 := hO29.cap; have hob29 := OwI.ob2 hO29; refine wp_append_ints (.tmp 113) (.tmp 114) 27 rfl i0 Try.underlying27 hii hiz his hib rfl hO29 rfl (RI.ext HT.out.tb hH) (by omega) hE29.size hc29.1 (fun A31 c31 w31 hO31 hg31 hat31 => ?_); have hE31 := Ext.grown hE29 hg31 (fun b hb => (hob29 b hb).1)
                refine hK.out _ _ (Ext.trans hH29 hE31) (fun hH9 => ?_)
                clear hK; have hH0 := hH; clear hH; have hH := hH9; clear hH9
                try simp only [Act.put, List.setIfInBounds_toArray, List.set_cons_zero, List.set_cons_succ]
                refine wpAnyH_ready (rs := [32]) (by kernel_rfl) (by simp) ?_
                refine AllReadyH.cons rfl (fun K hK => ?_) AllReadyH.nil
                rw [if_pos (by rfl)]
                go_wp2_with fail
                (with_reducible refine (c_kboLessB HCL.out (RdSig.mk (HT.out.ext hH).sg) (RdWt.mk (HT.out.ext hH).sy (HT.out.ext hH).rk) (RdIc.mk hc26 (by rw [HCA.out]; exact RI.ext hO26b hE31)) (RdIc.mk hO31.cap (by rw [HCB.out]; exact hO31.ri))).mono ?_)
                rintro e w9 ⟨rfl, hE9⟩
                refine hK.out _ _ (Ext.trans hH hE9) (fun hH9 => ?_)
                clear hK; have hH0 := hH; clear hH; have hH := hH9; clear hH9
                try simp only [Act.put, List.setIfInBounds_toArray, List.set_cons_zero, List.set_cons_succ]
                refine wpAnyH_take_dst (i := 33) (v := .bool true) (d := some 117) rfl rfl (by kernel_rfl) (by kernel_rfl) (by kernel_rfl) (fun _ _ _ h => h) (Or.inl ⟨by rfl, ?_⟩) hH ?_
                · (intro w' hE'; (try dsimp only at hE'); have y0 := Ext.keep hE' HT.out.s0; have y1 := Ext.keep hE' HT.out.q0; have y2 := Ext.keep hE' HT.out.q1; have y3 := Ext.keep hE' HT.out.q2; go_simp; try with_reducible rfl)
                try simp only [Act.put, List.setIfInBounds_toArray, List.set_cons_zero, List.set_cons_succ]
                refine wpAnyH_take_dst (i := 34) (v := .bool true) (d := some 2) rfl rfl (by kernel_rfl) (by kernel_rfl) (by kernel_rfl) (fun _ _ _ h => h) (Or.inl ⟨by rfl, ?_⟩) hH ?_
                · (intro w' hE'; (try dsimp only at hE'); have y0 := Ext.keep hE' HT.out.s0; have y1 := Ext.keep hE' HT.out.q0; have y2 := Ext.keep hE' HT.out.q1; have y3 := Ext.keep hE' HT.out.q2; go_simp; try with_reducible rfl)
                try simp only [Act.put, List.setIfInBounds_toArray, List.set_cons_zero, List.set_cons_succ]
                refine wpAnyH_done (by kernel_rfl) ?_ _
                exact ⟨_, _, A24, c24, A26, c26, A29, c29, A31, c31, by rfl, hH⟩
              · rw [if_pos (by rfl)]
                go_wp2_with fail
                refine hK.out _ _ (hH.alloc _) (fun hH9 => ?_)
                clear hK; have hH0 := hH; clear hH; have hH := hH9; clear hH9
                try simp only [Act.put, List.setIfInBounds_toArray, List.set_cons_zero, List.set_cons_succ]
                refine wpAnyH_ready (rs := [26]) (by kernel_rfl) (by simp) ?_
                refine AllReadyH.cons rfl (fun K hK => ?_) AllReadyH.nil
                rw [if_pos (by rfl)]
                have hs26 := hH24.size; have hO24b := OwI.lower (B' := w11.heap.size) (OwI.alloc hO24 (.cells #[] 2)) hs26; have hc26 := hO24b.cap; refine wp_append_ints (.tmp 108) (.tmp 109) 27 rfl i0 Try.underlying27 hii hiz his hib (D := w11.heap.size) rfl hO24b rfl (RI.ext HT.out.ta hH) (by omega) hH.size hc26.1 (fun A26 c26 w26 hO26 hg26 hat26 => ?_); have hob26 := OwI.ob2 hO24b
                refine hK.out _ _ (Ext.grown hH hg26 (fun b hb => (hob26 b hb).1)) (fun hH9 => ?_)
                clear hK; have hH0 := hH; clear hH; have hH := hH9; clear hH9
                try simp only [Act.put, List.setIfInBounds_toArray, List.set_cons_zero, List.set_cons_succ]
                refine wpAnyH_ready (rs := [29]) (by kernel_rfl) (by simp) ?_
                refine AllReadyH.cons rfl (fun K hK => ?_) AllReadyH.nil
                rw [if_pos (by rfl)]
                have hH29 := hH; have hO26b := hO26.ri; have hc26 := hO26.cap; refine wp_append_fresh (.tmp 111) (.tmp 112) 27 rfl i0 Try.underlying27 hii hiz his hib rfl rfl (RI.ext HRA.out hH) (by omega) (fun A29 c29 w29 hO29 hE29 => ?_)
                refine hK.out _ _ (Ext.trans hH hE29) (fun hH9 => ?_)
                clear hK; have hH0 := hH; clear hH; have hH := hH9; clear hH9
                try simp only [Act.put, List.setIfInBounds_toArray, List.set_cons_zero, List.set_cons_succ]
                refine wpAnyH_ready (rs := [31]) (by kernel_rfl) (by simp) ?_
                refine AllReadyH.cons rfl (fun K hK => ?_) AllReadyH.nil
                rw [if_pos (by rfl)]
                have hc29 := hO29.cap; have hob29 := OwI.ob2 hO29; refine wp_append_ints (.tmp 113) (.tmp 114) 27 rfl i0 Try.underlying27 hii hiz his hib rfl hO29 rfl (RI.ext HT.out.tb hH) (by omega) hE29.size hc29.1 (fun A31 c31 w31 hO31 hg31 hat31 => ?_); have hE31 := Ext.grown hE29 hg31 (fun b hb => (hob29 b hb).1)
                refine hK.out _ _ (Ext.trans hH29 hE31) (fun hH9 => ?_)
                clear hK; have hH0 := hH; clear hH; have hH := hH9; clear hH9
                try simp only [Act.put, List.setIfInBounds_toArray, List.set_cons_zero, List.set_cons_succ]
                refine wpAnyH_ready (rs := [32]) (by kernel_rfl) (by simp) ?_
                refine AllReadyH.cons rfl (fun K hK => ?_) AllReadyH.nil
                rw [if_pos (by rfl)]
                go_wp2_with fail
                (with_reducible refine (c_kboLessB HCL.out (RdSig.mk (HT.out.ext hH).sg) (RdWt.mk (HT.out.ext hH).sy (HT.out.ext hH).rk) (RdIc.mk hc26 (by rw [HCA.out]; exact RI.ext hO26b hE31)) (RdIc.mk hO31.cap (by rw [HCB.out]; exact hO31.ri))).mono ?_)
                rintro e w9 ⟨rfl, hE9⟩
                refine hK.out _ _ (Ext.trans hH hE9) (fun hH9 => ?_)
                clear hK; have hH0 := hH; clear hH; have hH := hH9; clear hH9
                try simp only [Act.put, List.setIfInBounds_toArray, List.set_cons_zero, List.set_cons_succ]
                refine wpAnyH_take_dst (i := 33) (v := .bool true) (d := some 117) rfl rfl (by kernel_rfl) (by kernel_rfl) (by kernel_rfl) (fun _ _ _ h => h) (Or.inl ⟨by rfl, ?_⟩) hH ?_
                · (intro w' hE'; (try dsimp only at hE'); have y0 := Ext.keep hE' HT.out.s0; have y1 := Ext.keep hE' HT.out.q0; have y2 := Ext.keep hE' HT.out.q1; have y3 := Ext.keep hE' HT.out.q2; go_simp; try with_reducible rfl)
                try simp only [Act.put, List.setIfInBounds_toArray, List.set_cons_zero, List.set_cons_succ]
                refine wpAnyH_take_dst (i := 34) (v := .bool true) (d := some 2) rfl rfl (by kernel_rfl) (by kernel_rfl) (by kernel_rfl) (fun _ _ _ h => h) (Or.inl ⟨by rfl, ?_⟩) hH ?_
                · (intro w' hE'; (try dsimp only at hE'); have y0 := Ext.keep hE' HT.out.s0; have y1 := Ext.keep hE' HT.out.q0; have y2 := Ext.keep hE' HT.out.q1; have y3 := Ext.keep hE' HT.out.q2; go_simp; try with_reducible rfl)
                try simp only [Act.put, List.setIfInBounds_toArray, List.set_cons_zero, List.set_cons_succ]
                refine wpAnyH_done (by kernel_rfl) ?_ _
                exact ⟨_, _, A24, c24, A26, c26, A29, c29, A31, c31, by rfl, hH⟩
            · rw [if_pos (by rfl)]
              go_wp2_with fail
              refine hK.out _ _ (hH.alloc _) (fun hH9 => ?_)
              clear hK; have hH0 := hH; clear hH; have hH := hH9; clear hH9
              try simp only [Act.put, List.setIfInBounds_toArray, List.set_cons_zero, List.set_cons_succ]
              refine wpAnyH_ready (rs := [24]) (by kernel_rfl) (by simp) ?_
              refine AllReadyH.cons rfl (fun K hK => ?_) AllReadyH.nil
              rw [if_pos (by rfl)]
              have hH24 := hH; refine wp_append_fresh (.tmp 106) (.tmp 107) 27 rfl i0 Try.underlying27 hii hiz his hib rfl rfl (RI.ext HRA.out hH) (by omega) (fun A24 c24 w24 hO24 hE24 => ?_)
              refine hK.out _ _ (Ext.trans hH hE24) (fun hH9 => ?_)
              clear hK; have hH0 := hH; clear hH; have hH := hH9; clear hH9
              try simp only [Act.put, List.setIfInBounds_toArray, List.set_cons_zero, List.set_cons_succ]
              refine wpAnyH_ready (rs := [26]) (by kernel_rfl) (by simp) ?_
              refine AllReadyH.cons rfl (fun K hK => ?_) AllReadyH.nil
              rw [if_pos (by rfl)]
              have hs26 := hH24.size; have hO24b := OwI.lower (B' := w11.heap.size) hO24 hs26; have hc26 := hO24b.cap; refine wp_append_ints (.tmp 108) (.tmp 109) 27 rfl i0 Try.underlying27 hii hiz his hib (D := w11.heap.size) rfl hO24b rfl (RI.ext HT.out.ta hH) (by omega) hH.size hc26.1 (fun A26 c26 w26 hO26 hg26 hat26 => ?_); have hob26 := OwI.ob2 hO24b
              refine hK.out _ _ (Ext.grown hH hg26 (fun b hb => (hob26 b hb).1)) (fun hH9 => ?_)
              clear hK; have hH0 := hH; clear hH; have hH := hH9; clear hH9
              try simp only [Act.put, List.setIfInBounds_toArray, List.set_cons_zero, List.set_cons_succ]
              refine wpAnyH_ready (rs := [29]) (by kernel_rfl) (by simp) ?_
              refine AllReadyH.cons rfl (fun K hK => ?_) AllReadyH.nil
              rw [if_pos (by rfl)]
              have hH29 := hH; have hO26b := hO26.ri; have hc26 := hO26.cap; refine wp_append_fresh (.tmp 111) (.tmp 112) 27 rfl i0 Try.underlying27 hii hiz his hib rfl rfl (RI.ext HRA.out hH) (by omega) (fun A29 c29 w29 hO29 hE29 => ?_)
              refine hK.out _ _ (Ext.trans hH hE29) (fun hH9 => ?_)
              clear hK; have hH0 := hH; clear hH; have hH := hH9; clear hH9
              try simp only [Act.put, List.setIfInBounds_toArray, List.set_cons_zero, List.set_cons_succ]
              refine wpAnyH_ready (rs := [31]) (by kernel_rfl) (by simp) ?_
              refine AllReadyH.cons rfl (fun K hK => ?_) AllReadyH.nil
              rw [if_pos (by rfl)]
              have hc29 := hO29.cap; have hob29 := OwI.ob2 hO29; refine wp_append_ints (.tmp 113) (.tmp 114) 27 rfl i0 Try.underlying27 hii hiz his hib rfl hO29 rfl (RI.ext HT.out.tb hH) (by omega) hE29.size hc29.1 (fun A31 c31 w31 hO31 hg31 hat31 => ?_); have hE31 := Ext.grown hE29 hg31 (fun b hb => (hob29 b hb).1)
              refine hK.out _ _ (Ext.trans hH29 hE31) (fun hH9 => ?_)
              clear hK; have hH0 := hH; clear hH; have hH := hH9; clear hH9
              try simp only [Act.put, List.setIfInBounds_toArray, List.set_cons_zero, List.set_cons_succ]
              refine wpAnyH_ready (rs := [32]) (by kernel_rfl) (by simp) ?_
              refine AllReadyH.cons rfl (fun K hK => ?_) AllReadyH.nil
              rw [if_pos (by rfl)]
              go_wp2_with fail
              (with_reducible refine (c_kboLessB HCL.out (RdSig.mk (HT.out.ext hH).sg) (RdWt.mk (HT.out.ext hH).sy (HT.out.ext hH).rk) (RdIc.mk hc26 (by rw [HCA.out]; exact RI.ext hO26b hE31)) (RdIc.mk hO31.cap (by rw [HCB.out]; exact hO31.ri))).mono ?_)
              rintro e w9 ⟨rfl, hE9⟩
              refine hK.out _ _ (Ext.trans hH hE9) (fun hH9 => ?_)
              clear hK; have hH0 := hH; clear hH; have hH := hH9; clear hH9
              try simp only [Act.put, List.setIfInBounds_toArray, List.set_cons_zero, List.set_cons_succ]
              refine wpAnyH_take_dst (i := 33) (v := .bool true) (d := some 117) rfl rfl (by kernel_rfl) (by kernel_rfl) (by kernel_rfl) (fun _ _ _ h => h) (Or.inl ⟨by rfl, ?_⟩) hH ?_
              · (intro w' hE'; (try dsimp only at hE'); have y0 := Ext.keep hE' HT.out.s0; have y1 := Ext.keep hE' HT.out.q0; have y2 := Ext.keep hE' HT.out.q1; have y3 := Ext.keep hE' HT.out.q2; go_simp; try with_reducible rfl)
              try simp only [Act.put, List.setIfInBounds_toArray, List.set_cons_zero, List.set_cons_succ]
              refine wpAnyH_take_dst (i := 34) (v := .bool true) (d := some 2) rfl rfl (by kernel_rfl) (by kernel_rfl) (by kernel_rfl) (fun _ _ _ h => h) (Or.inl ⟨by rfl, ?_⟩) hH ?_
              · (intro w' hE'; (try dsimp only at hE'); have y0 := Ext.keep hE' HT.out.s0; have y1 := Ext.keep hE' HT.out.q0; have y2 := Ext.keep hE' HT.out.q1; have y3 := Ext.keep hE' HT.out.q2; go_simp; try with_reducible rfl)
              try simp only [Act.put, List.setIfInBounds_toArray, List.set_cons_zero, List.set_cons_succ]
              refine wpAnyH_done (by kernel_rfl) ?_ _
              exact ⟨_, _, A24, c24, A26, c26, A29, c29, A31, c31, by rfl, hH⟩
          · rw [if_pos (by rfl)]
            go_wp2_with fail
            refine hK.out _ _ (hH.alloc _) (fun hH9 => ?_)
            clear hK; have hH0 := hH; clear hH; have hH := hH9; clear hH9
            try simp only [Act.put, List.setIfInBounds_toArray, List.set_cons_zero, List.set_cons_succ]
            refine wpAnyH_ready (rs := [22]) (by kernel_rfl) (by simp) ?_
            refine AllReadyH.cons rfl (fun K hK => ?_) AllReadyH.nil
            rw [if_pos (by rfl)]
            go_wp2_with fail
            refine hK.out _ _ (hH.alloc _) (fun hH9 => ?_)
            clear hK; have hH0 := hH; clear hH; have hH := hH9; clear hH9
            try simp only [Act.put, List.setIfInBounds_toArray, List.set_cons_zero, List.set_cons_succ]
            refine wpAnyH_ready (rs := [24]) (by kernel_rfl) (by simp) ?_
            refine AllReadyH.cons rfl (fun K hK => ?_) AllReadyH.nil
            rw [if_pos (by rfl)]
            have hH24 := hH; refine wp_append_fresh (.tmp 106) (.tmp 107) 27 rfl i0 Try.underlying27 hii hiz his hib rfl rfl (RI.ext HRA.out hH) (by omega) (fun A24 c24 w24 hO24 hE24 => ?_)
            refine hK.out _ _ (Ext.trans hH hE24) (fun hH9 => ?_)
            clear hK; have hH0 := hH; clear hH; have hH := hH9; clear hH9
            try simp only [Act.put, List.setIfInBounds_toArray, List.set_cons_zero, List.set_cons_succ]
            refine wpAnyH_ready (rs := [26]) (by kernel_rfl) (by simp) ?_
            refine AllReadyH.cons rfl (fun K hK => ?_) AllReadyH.nil
            rw [if_pos (by rfl)]
            have hs26 := hH24.size; have hO24b := OwI.lower (B' := w11.heap.size) hO24 hs26; have hc26 := hO24b.cap; refine wp_append_ints (.tmp 108) (.tmp 109) 27 rfl i0 Try.underlying27 hii hiz his hib (D := w11.heap.size) rfl hO24b rfl (RI.ext HT.out.ta hH) (by omega) hH.size hc26.1 (fun A26 c26 w26 hO26 hg26 hat26 => ?_); have hob26 := OwI.ob2 hO24b
            refine hK.out _ _ (Ext.grown hH hg26 (fun b hb => (hob26 b hb).1)) (fun hH9 => ?_)
            clear hK; have hH0 := hH; clear hH; have hH := hH9; clear hH9
            try simp only [Act.put, List.setIfInBounds_toArray, List.set_cons_zero, List.set_cons_succ]
            refine wpAnyH_ready (rs := [29]) (by kernel_rfl) (by simp) ?_
            refine AllReadyH.cons rfl (fun K hK => ?_) AllReadyH.nil
            rw [if_pos (by rfl)]
            have hH29 := hH; have hO26b := hO26.ri; have hc26 := hO26.cap; refine wp_append_fresh (.tmp 111) (.tmp 112) 27 rfl i0 Try.underlying27 hii hiz his hib rfl rfl (RI.ext HRA.out hH) (by omega) (fun A29 c29 w29 hO29 hE29 => ?_)
            refine hK.out _ _ (Ext.trans hH hE29) (fun hH9 => ?_)
            clear hK; have hH0 := hH; clear hH; have hH := hH9; clear hH9
            try simp only [Act.put, List.setIfInBounds_toArray, List.set_cons_zero, List.set_cons_succ]
            refine wpAnyH_ready (rs := [31]) (by kernel_rfl) (by simp) ?_
            refine AllReadyH.cons rfl (fun K hK => ?_) AllReadyH.nil
            rw [if_pos (by rfl)]
            have hc29 := hO29.cap; have hob29 := OwI.ob2 hO29; refine wp_append_ints (.tmp 113) (.tmp 114) 27 rfl i0 Try.underlying27 hii hiz his hib rfl hO29 rfl (RI.ext HT.out.tb hH) (by omega) hE29.size hc29.1 (fun A31 c31 w31 hO31 hg31 hat31 => ?_); have hE31 := Ext.grown hE29 hg31 (fun b hb => (hob29 b hb).1)
            refine hK.out _ _ (Ext.trans hH29 hE31) (fun hH9 => ?_)
            clear hK; have hH0 := hH; clear hH; have hH := hH9; clear hH9
            try simp only [Act.put, List.setIfInBounds_toArray, List.set_cons_zero, List.set_cons_succ]
            refine wpAnyH_ready (rs := [32]) (by kernel_rfl) (by simp) ?_
            refine AllReadyH.cons rfl (fun K hK => ?_) AllReadyH.nil
            rw [if_pos (by rfl)]
            go_wp2_with fail
            (with_reducible refine (c_kboLessB HCL.out (RdSig.mk (HT.out.ext hH).sg) (RdWt.mk (HT.out.ext hH).sy (HT.out.ext hH).rk) (RdIc.mk hc26 (by rw [HCA.out]; exact RI.ext hO26b hE31)) (RdIc.mk hO31.cap (by rw [HCB.out]; exact hO31.ri))).mono ?_)
            rintro e w9 ⟨rfl, hE9⟩
            refine hK.out _ _ (Ext.trans hH hE9) (fun hH9 => ?_)
            clear hK; have hH0 := hH; clear hH; have hH := hH9; clear hH9
            try simp only [Act.put, List.setIfInBounds_toArray, List.set_cons_zero, List.set_cons_succ]
            refine wpAnyH_take_dst (i := 33) (v := .bool true) (d := some 117) rfl rfl (by kernel_rfl) (by kernel_rfl) (by kernel_rfl) (fun _ _ _ h => h) (Or.inl ⟨by rfl, ?_⟩) hH ?_
            · (intro w' hE'; (try dsimp only at hE'); have y0 := Ext.keep hE' HT.out.s0; have y1 := Ext.keep hE' HT.out.q0; have y2 := Ext.keep hE' HT.out.q1; have y3 := Ext.keep hE' HT.out.q2; go_simp; try with_reducible rfl)
            try simp only [Act.put, List.setIfInBounds_toArray, List.set_cons_zero, List.set_cons_succ]
            refine wpAnyH_take_dst (i := 34) (v := .bool true) (d := some 2) rfl rfl (by kernel_rfl) (by kernel_rfl) (by kernel_rfl) (fun _ _ _ h => h) (Or.inl ⟨by rfl, ?_⟩) hH ?_
            · (intro w' hE'; (try dsimp only at hE'); have y0 := Ext.keep hE' HT.out.s0; have y1 := Ext.keep hE' HT.out.q0; have y2 := Ext.keep hE' HT.out.q1; have y3 := Ext.keep hE' HT.out.q2; go_simp; try with_reducible rfl)
            try simp only [Act.put, List.setIfInBounds_toArray, List.set_cons_zero, List.set_cons_succ]
            refine wpAnyH_done (by kernel_rfl) ?_ _
            exact ⟨_, _, A24, c24, A26, c26, A29, c29, A31, c31, by rfl, hH⟩
        obtain ⟨qa, qb, A24, c24, A26, c26, A29, c29, A31, c31, ha, hE12⟩ := hR
        simp only [Act.put, List.setIfInBounds_toArray, List.set_cons_zero, List.set_cons_succ] at ha
        subst ha
        go_wp2_with fail
        go_ret
        exact ⟨rfl, Ext.trans hE011 hE12⟩
      | some x =>
        cases ob with
        | none =>
          go_wp2_with fail
          rw [← hrn]
          clear hrn
          refine wp_only (R := fun (a0 : Act) (a8 : Act) (w9 : World) => ∃ (qa : Nat) (qb : Nat) (A24 : Option Addr) (c24 : Nat) (A26 : Option Addr) (c26 : Nat) (A29 : Option Addr) (c29 : Nat) (A31 : Option Addr) (c31 : Nat), a8 = (((((((((((((((((((((((((((((((((((a0.put (some 84) (.agg #[.slice AS 3 cS])).put (some 85) (.slice TA na ca)).put (some 86) (.slice TB nb cb)).put (some 87) (.bool true)).put (some 88) (.bool true)).put (some 89) (.bool true)).put (some 90) (.bool false)).put (some 91) (.bool false)).put (some 92) (.bool false)).put (some 93) (.bool true)).put (some 94) (.bool true)).put (some 95) (.bool true)).put (some 96) (undef)).put (some 97) (undef)).put (some 98) (undef)).put (some 99) (undef)).put (some 100) (undef)).put (some 101) (.bool true)).put (some 102) (.bool true)).put (some 103) (.bool true)).put (some 104) (.agg #[.slice AS 3 cS])).put (some 105) (.agg #[.int .i64 W.var, .slice SA 3 3, .slice SB 3 3])).put (some 107) (.slice RA rn rc)).put (some 109) (.slice TA na ca)).put (some 112) (.slice RA rn rc)).put (some 114) (.slice TB nb cb)).put (some 106) (.slice (some ⟨qa, 0, none⟩) 0 0)).put (some 111) (.slice (some ⟨qb, 0, none⟩) 0 0)).put (some 108) (.slice A24 rn c24)).put (some 110) (.slice A26 (rn + na) c26)).put (some 113) (.slice A29 rn c29)).put (some 115) (.slice A31 (rn + nb) c31)).put (some 116) (.bool true)).put (some 117) (.bool true)).put (some 2) (.bool true)) ∧ Ext w11 w9) ?_ (fun a8 w12 hR => ?_)
          · refine wp_region_held_drew (S := (fun w' => Ext w11 w')) (by kernel_rfl) ((Ext.refl w11).drew) (fun hH => ?_)
            refine wpAnyH_take_dst (i := 0) (v := .agg #[.slice AS 3 cS]) (d := some 84) rfl rfl (by kernel_rfl) (by kernel_rfl) (by kernel_rfl) (fun _ _ _ h => h) (Or.inl ⟨by rfl, ?_⟩) hH ?_
            · (intro w' hE'; (try dsimp only at hE'); have y0 := Ext.keep hE' HT.out.s0; have y1 := Ext.keep hE' HT.out.q0; have y2 := Ext.keep hE' HT.out.q1; have y3 := Ext.keep hE' HT.out.q2; go_simp; try with_reducible rfl)
            try simp only [Act.put, List.setIfInBounds_toArray, List.set_cons_zero, List.set_cons_succ]
            refine wpAnyH_take_dst (i := 1) (v := .slice TA na ca) (d := some 85) rfl rfl (by kernel_rfl) (by kernel_rfl) (by kernel_rfl) (fun _ _ _ h => h) (Or.inl ⟨by rfl, ?_⟩) hH ?_
            · (intro w' hE'; (try dsimp only at hE'); have y0 := Ext.keep hE' HT.out.s0; have y1 := Ext.keep hE' HT.out.q0; have y2 := Ext.keep hE' HT.out.q1; have y3 := Ext.keep hE' HT.out.q2; go_simp; try with_reducible rfl)
            try simp only [Act.put, List.setIfInBounds_toArray, List.set_cons_zero, List.set_cons_succ]
            refine wpAnyH_take_dst (i := 2) (v := .slice TB nb cb) (d := some 86) rfl rfl (by kernel_rfl) (by kernel_rfl) (by kernel_rfl) (fun _ _ _ h => h) (Or.inl ⟨by rfl, ?_⟩) hH ?_
            · (intro w' hE'; (try dsimp only at hE'); have y0 := Ext.keep hE' HT.out.s0; have y1 := Ext.keep hE' HT.out.q0; have y2 := Ext.keep hE' HT.out.q1; have y3 := Ext.keep hE' HT.out.q2; go_simp; try with_reducible rfl)
            try simp only [Act.put, List.setIfInBounds_toArray, List.set_cons_zero, List.set_cons_succ]
            refine wpAnyH_ready (rs := [3]) (by kernel_rfl) (by simp) ?_
            refine AllReadyH.cons rfl (fun K hK => ?_) AllReadyH.nil
            rw [if_pos (by rfl)]
            go_wp2_with fail
            (with_reducible refine (c_oftenB HOFT.out (RdSig.mk (HT.out.ext hH).sg) (RdI.mk (HT.out.ext hH).ta) (RdI.mk (HT.out.ext hH).tb)).mono ?_)
            rintro e w9 ⟨rfl, hE9⟩
            refine hK.out _ _ (Ext.trans hH hE9) (fun hH9 => ?_)
            clear hK; have hH0 := hH; clear hH; have hH := hH9; clear hH9
            try simp only [Act.put, List.setIfInBounds_toArray, List.set_cons_zero, List.set_cons_succ]
            refine wpAnyH_take_dst (i := 4) (v := .bool true) (d := some 88) rfl rfl (by kernel_rfl) (by kernel_rfl) (by kernel_rfl) (fun _ _ _ h => h) (Or.inl ⟨by rfl, ?_⟩) hH ?_
            · (intro w' hE'; (try dsimp only at hE'); have y0 := Ext.keep hE' HT.out.s0; have y1 := Ext.keep hE' HT.out.q0; have y2 := Ext.keep hE' HT.out.q1; have y3 := Ext.keep hE' HT.out.q2; go_simp; try with_reducible rfl)
            try simp only [Act.put, List.setIfInBounds_toArray, List.set_cons_zero, List.set_cons_succ]
            refine wpAnyH_take_dst (i := 5) (v := .bool true) (d := some 89) rfl rfl (by kernel_rfl) (by kernel_rfl) (by kernel_rfl) (fun _ _ _ h => h) (Or.inl ⟨by rfl, ?_⟩) hH ?_
            · (intro w' hE'; (try dsimp only at hE'); have y0 := Ext.keep hE' HT.out.s0; have y1 := Ext.keep hE' HT.out.q0; have y2 := Ext.keep hE' HT.out.q1; have y3 := Ext.keep hE' HT.out.q2; go_simp; try with_reducible rfl)
            try simp only [Act.put, List.setIfInBounds_toArray, List.set_cons_zero, List.set_cons_succ]
            refine wpAnyH_take_dst (i := 6) (v := .bool false) (d := some 90) rfl rfl (by kernel_rfl) (by kernel_rfl) (by kernel_rfl) (fun _ _ _ h => h) (Or.inl ⟨by rfl, ?_⟩) hH ?_
            · (intro w' hE'; (try dsimp only at hE'); have y0 := Ext.keep hE' HT.out.s0; have y1 := Ext.keep hE' HT.out.q0; have y2 := Ext.keep hE' HT.out.q1; have y3 := Ext.keep hE' HT.out.q2; go_simp; try with_reducible rfl)
            try simp only [Act.put, List.setIfInBounds_toArray, List.set_cons_zero, List.set_cons_succ]
            refine wpAnyH_take_dst (i := 7) (v := .bool false) (d := some 91) rfl rfl (by kernel_rfl) (by kernel_rfl) (by kernel_rfl) (fun _ _ _ h => h) (Or.inl ⟨by rfl, ?_⟩) hH ?_
            · (intro w' hE'; (try dsimp only at hE'); have y0 := Ext.keep hE' HT.out.s0; have y1 := Ext.keep hE' HT.out.q0; have y2 := Ext.keep hE' HT.out.q1; have y3 := Ext.keep hE' HT.out.q2; go_simp; try with_reducible rfl)
            try simp only [Act.put, List.setIfInBounds_toArray, List.set_cons_zero, List.set_cons_succ]
            refine wpAnyH_take_dst (i := 8) (v := .bool false) (d := some 92) rfl rfl (by kernel_rfl) (by kernel_rfl) (by kernel_rfl) (fun _ _ _ h => h) (Or.inl ⟨by rfl, ?_⟩) hH ?_
            · (intro w' hE'; (try dsimp only at hE'); have y0 := Ext.keep hE' HT.out.s0; have y1 := Ext.keep hE' HT.out.q0; have y2 := Ext.keep hE' HT.out.q1; have y3 := Ext.keep hE' HT.out.q2; go_simp; try with_reducible rfl)
            try simp only [Act.put, List.setIfInBounds_toArray, List.set_cons_zero, List.set_cons_succ]
            refine wpAnyH_take_dst (i := 9) (v := .bool true) (d := some 93) rfl rfl (by kernel_rfl) (by kernel_rfl) (by kernel_rfl) (fun _ _ _ h => h) (Or.inl ⟨by rfl, ?_⟩) hH ?_
            · (intro w' hE'; (try dsimp only at hE'); have y0 := Ext.keep hE' HT.out.s0; have y1 := Ext.keep hE' HT.out.q0; have y2 := Ext.keep hE' HT.out.q1; have y3 := Ext.keep hE' HT.out.q2; go_simp; try with_reducible rfl)
            try simp only [Act.put, List.setIfInBounds_toArray, List.set_cons_zero, List.set_cons_succ]
            refine wpAnyH_take_dst (i := 10) (v := .bool true) (d := some 94) rfl rfl (by kernel_rfl) (by kernel_rfl) (by kernel_rfl) (fun _ _ _ h => h) (Or.inl ⟨by rfl, ?_⟩) hH ?_
            · (intro w' hE'; (try dsimp only at hE'); have y0 := Ext.keep hE' HT.out.s0; have y1 := Ext.keep hE' HT.out.q0; have y2 := Ext.keep hE' HT.out.q1; have y3 := Ext.keep hE' HT.out.q2; go_simp; try with_reducible rfl)
            try simp only [Act.put, List.setIfInBounds_toArray, List.set_cons_zero, List.set_cons_succ]
            refine wpAnyH_take_dst (i := 11) (v := .bool true) (d := some 95) rfl rfl (by kernel_rfl) (by kernel_rfl) (by kernel_rfl) (fun _ _ _ h => h) (Or.inl ⟨by rfl, ?_⟩) hH ?_
            · (intro w' hE'; (try dsimp only at hE'); have y0 := Ext.keep hE' HT.out.s0; have y1 := Ext.keep hE' HT.out.q0; have y2 := Ext.keep hE' HT.out.q1; have y3 := Ext.keep hE' HT.out.q2; go_simp; try with_reducible rfl)
            try simp only [Act.put, List.setIfInBounds_toArray, List.set_cons_zero, List.set_cons_succ]
            refine wpAnyH_take_dst (i := 12) (v := undef) (d := some 96) rfl rfl (by kernel_rfl) (by kernel_rfl) (by kernel_rfl) (fun _ _ _ h => h) (Or.inr ⟨by rfl, rfl⟩) hH ?_
            try simp only [Act.put, List.setIfInBounds_toArray, List.set_cons_zero, List.set_cons_succ]
            refine wpAnyH_take_dst (i := 13) (v := undef) (d := some 97) rfl rfl (by kernel_rfl) (by kernel_rfl) (by kernel_rfl) (fun _ _ _ h => h) (Or.inr ⟨by rfl, rfl⟩) hH ?_
            try simp only [Act.put, List.setIfInBounds_toArray, List.set_cons_zero, List.set_cons_succ]
            refine wpAnyH_take_dst (i := 14) (v := undef) (d := some 98) rfl rfl (by kernel_rfl) (by kernel_rfl) (by kernel_rfl) (fun _ _ _ h => h) (Or.inr ⟨by rfl, rfl⟩) hH ?_
            try simp only [Act.put, List.setIfInBounds_toArray, List.set_cons_zero, List.set_cons_succ]
            refine wpAnyH_take_dst (i := 15) (v := undef) (d := some 99) rfl rfl (by kernel_rfl) (by kernel_rfl) (by kernel_rfl) (fun _ _ _ h => h) (Or.inr ⟨by rfl, rfl⟩) hH ?_
            try simp only [Act.put, List.setIfInBounds_toArray, List.set_cons_zero, List.set_cons_succ]
            refine wpAnyH_take_dst (i := 16) (v := undef) (d := some 100) rfl rfl (by kernel_rfl) (by kernel_rfl) (by kernel_rfl) (fun _ _ _ h => h) (Or.inr ⟨by rfl, rfl⟩) hH ?_
            try simp only [Act.put, List.setIfInBounds_toArray, List.set_cons_zero, List.set_cons_succ]
            refine wpAnyH_take_dst (i := 17) (v := .bool true) (d := some 101) rfl rfl (by kernel_rfl) (by kernel_rfl) (by kernel_rfl) (fun _ _ _ h => h) (Or.inl ⟨by rfl, ?_⟩) hH ?_
            · (intro w' hE'; (try dsimp only at hE'); have y0 := Ext.keep hE' HT.out.s0; have y1 := Ext.keep hE' HT.out.q0; have y2 := Ext.keep hE' HT.out.q1; have y3 := Ext.keep hE' HT.out.q2; go_simp; try with_reducible rfl)
            try simp only [Act.put, List.setIfInBounds_toArray, List.set_cons_zero, List.set_cons_succ]
            refine wpAnyH_take_dst (i := 18) (v := .bool true) (d := some 102) rfl rfl (by kernel_rfl) (by kernel_rfl) (by kernel_rfl) (fun _ _ _ h => h) (Or.inl ⟨by rfl, ?_⟩) hH ?_
            · (intro w' hE'; (try dsimp only at hE'); have y0 := Ext.keep hE' HT.out.s0; have y1 := Ext.keep hE' HT.out.q0; have y2 := Ext.keep hE' HT.out.q1; have y3 := Ext.keep hE' HT.out.q2; go_simp; try with_reducible rfl)
            try simp only [Act.put, List.setIfInBounds_toArray, List.set_cons_zero, List.set_cons_succ]
            refine wpAnyH_take_dst (i := 19) (v := .bool true) (d := some 103) rfl rfl (by kernel_rfl) (by kernel_rfl) (by kernel_rfl) (fun _ _ _ h => h) (Or.inl ⟨by rfl, ?_⟩) hH ?_
            · (intro w' hE'; (try dsimp only at hE'); have y0 := Ext.keep hE' HT.out.s0; have y1 := Ext.keep hE' HT.out.q0; have y2 := Ext.keep hE' HT.out.q1; have y3 := Ext.keep hE' HT.out.q2; go_simp; try with_reducible rfl)
            try simp only [Act.put, List.setIfInBounds_toArray, List.set_cons_zero, List.set_cons_succ]
            refine wpAnyH_take_dst (i := 20) (v := .agg #[.slice AS 3 cS]) (d := some 104) rfl rfl (by kernel_rfl) (by kernel_rfl) (by kernel_rfl) (fun _ _ _ h => h) (Or.inl ⟨by rfl, ?_⟩) hH ?_
            · (intro w' hE'; (try dsimp only at hE'); have y0 := Ext.keep hE' HT.out.s0; have y1 := Ext.keep hE' HT.out.q0; have y2 := Ext.keep hE' HT.out.q1; have y3 := Ext.keep hE' HT.out.q2; go_simp; try with_reducible rfl)
            try simp only [Act.put, List.setIfInBounds_toArray, List.set_cons_zero, List.set_cons_succ]
            refine wpAnyH_take_dst (i := 21) (v := .agg #[.int .i64 W.var, .slice SA 3 3, .slice SB 3 3]) (d := some 105) rfl rfl (by kernel_rfl) (by kernel_rfl) (by kernel_rfl) (fun _ _ _ h => h) (Or.inl ⟨by rfl, ?_⟩) hH ?_
            · (intro w' hE'; (try dsimp only at hE'); have y0 := Ext.keep hE' HT.out.s0; have y1 := Ext.keep hE' HT.out.q0; have y2 := Ext.keep hE' HT.out.q1; have y3 := Ext.keep hE' HT.out.q2; go_simp; try with_reducible rfl)
            try simp only [Act.put, List.setIfInBounds_toArray, List.set_cons_zero, List.set_cons_succ]
            refine wpAnyH_take_dst (i := 23) (v := .slice RA rn rc) (d := some 107) rfl rfl (by kernel_rfl) (by kernel_rfl) (by kernel_rfl) (fun _ _ _ h => h) (Or.inl ⟨by rfl, ?_⟩) hH ?_
            · (intro w' hE'; (try dsimp only at hE'); have y0 := Ext.keep hE' HT.out.s0; have y1 := Ext.keep hE' HT.out.q0; have y2 := Ext.keep hE' HT.out.q1; have y3 := Ext.keep hE' HT.out.q2; go_simp; try with_reducible rfl)
            try simp only [Act.put, List.setIfInBounds_toArray, List.set_cons_zero, List.set_cons_succ]
            refine wpAnyH_take_dst (i := 25) (v := .slice TA na ca) (d := some 109) rfl rfl (by kernel_rfl) (by kernel_rfl) (by kernel_rfl) (fun _ _ _ h => h) (Or.inl ⟨by rfl, ?_⟩) hH ?_
            · (intro w' hE'; (try dsimp only at hE'); have y0 := Ext.keep hE' HT.out.s0; have y1 := Ext.keep hE' HT.out.q0; have y2 := Ext.keep hE' HT.out.q1; have y3 := Ext.keep hE' HT.out.q2; go_simp; try with_reducible rfl)
            try simp only [Act.put, List.setIfInBounds_toArray, List.set_cons_zero, List.set_cons_succ]
            refine wpAnyH_take_dst (i := 28) (v := .slice RA rn rc) (d := some 112) rfl rfl (by kernel_rfl) (by kernel_rfl) (by kernel_rfl) (fun _ _ _ h => h) (Or.inl ⟨by rfl, ?_⟩) hH ?_
            · (intro w' hE'; (try dsimp only at hE'); have y0 := Ext.keep hE' HT.out.s0; have y1 := Ext.keep hE' HT.out.q0; have y2 := Ext.keep hE' HT.out.q1; have y3 := Ext.keep hE' HT.out.q2; go_simp; try with_reducible rfl)
            try simp only [Act.put, List.setIfInBounds_toArray, List.set_cons_zero, List.set_cons_succ]
            refine wpAnyH_take_dst (i := 30) (v := .slice TB nb cb) (d := some 114) rfl rfl (by kernel_rfl) (by kernel_rfl) (by kernel_rfl) (fun _ _ _ h => h) (Or.inl ⟨by rfl, ?_⟩) hH ?_
            · (intro w' hE'; (try dsimp only at hE'); have y0 := Ext.keep hE' HT.out.s0; have y1 := Ext.keep hE' HT.out.q0; have y2 := Ext.keep hE' HT.out.q1; have y3 := Ext.keep hE' HT.out.q2; go_simp; try with_reducible rfl)
            try simp only [Act.put, List.setIfInBounds_toArray, List.set_cons_zero, List.set_cons_succ]
            refine wpAnyH_ready (rs := [22, 27]) (by kernel_rfl) (by simp) ?_
            refine AllReadyH.cons rfl (fun K hK => ?_) (AllReadyH.cons rfl (fun K hK => ?_) (AllReadyH.nil))
            · rw [if_pos (by rfl)]
              go_wp2_with fail
              refine hK.out _ _ (hH.alloc _) (fun hH9 => ?_)
              clear hK; have hH0 := hH; clear hH; have hH := hH9; clear hH9
              try simp only [Act.put, List.setIfInBounds_toArray, List.set_cons_zero, List.set_cons_succ]
              refine wpAnyH_ready (rs := [24, 27]) (by kernel_rfl) (by simp) ?_
              refine AllReadyH.cons rfl (fun K hK => ?_) (AllReadyH.cons rfl (fun K hK => ?_) (AllReadyH.nil))
              · rw [if_pos (by rfl)]
                have hH24 := hH; refine wp_append_fresh (.tmp 106) (.tmp 107) 27 rfl i0 Try.underlying27 hii hiz his hib rfl rfl (RI.ext HRA.out hH) (by omega) (fun A24 c24 w24 hO24 hE24 => ?_)
                refine hK.out _ _ (Ext.trans hH hE24) (fun hH9 => ?_)
                clear hK; have hH0 := hH; clear hH; have hH := hH9; clear hH9
                try simp only [Act.put, List.setIfInBounds_toArray, List.set_cons_zero, List.set_cons_succ]
                refine wpAnyH_ready (rs := [26, 27]) (by kernel_rfl) (by simp) ?_
                refine AllReadyH.cons rfl (fun K hK => ?_) (AllReadyH.cons rfl (fun K hK => ?_) (AllReadyH.nil))
                · rw [if_pos (by rfl)]
                  have hs26 := hH24.size; have hO24b := OwI.lower (B' := w11.heap.size) hO24 hs26; have hc26 := hO24b.cap; refine wp_append_ints (.tmp 108) (.tmp 109) 27 rfl i0 Try.underlying27 hii hiz his hib (D := w11.heap.size) rfl hO24b rfl (RI.ext HT.out.ta hH) (by omega) hH.size hc26.1 (fun A26 c26 w26 hO26 hg26 hat26 => ?_); have hob26 := OwI.ob2 hO24b
                  refine hK.out _ _ (Ext.grown hH hg26 (fun b hb => (hob26 b hb).1)) (fun hH9 => ?_)
                  clear hK; have hH0 := hH; clear hH; have hH := hH9; clear hH9
                  try simp only [Act.put, List.setIfInBounds_toArray, List.set_cons_zero, List.set_cons_succ]
                  refine wpAnyH_ready (rs := [27]) (by kernel_rfl) (by simp) ?_
                  refine AllReadyH.cons rfl (fun K hK => ?_) AllReadyH.nil
                  rw [if_pos (by rfl)]
                  go_wp2_with fail
                  refine hK.out _ _ (hH.alloc _) (fun hH9 => ?_)
                  clear hK; have hH0 := hH; clear hH; have hH := hH9; clear hH9
                  try simp only [Act.put, List.setIfInBounds_toArray, List.set_cons_zero, List.set_cons_succ]
                  refine wpAnyH_ready (rs := [29]) (by kernel_rfl) (by simp) ?_
                  refine AllReadyH.cons rfl (fun K hK => ?_) AllReadyH.nil
                  rw [if_pos (by rfl)]
                  have hH29 := hH; have hO26b := (OwI.alloc hO26 (.cells #[] 2)).ri; have hc26 := hO26.cap; refine wp_append_fresh (.tmp 111) (.tmp 112) 27 rfl i0 Try.underlying27 hii hiz his hib rfl rfl (RI.ext HRA.out hH) (by omega) (fun A29 c29 w29 hO29 hE29 => ?_)
                  refine hK.out _ _ (Ext.trans hH hE29) (fun hH9 => ?_)
                  clear hK; have hH0 := hH; clear hH; have hH := hH9; clear hH9
                  try simp only [Act.put, List.setIfInBounds_toArray, List.set_cons_zero, List.set_cons_succ]
                  refine wpAnyH_ready (rs := [31]) (by kernel_rfl) (by simp) ?_
                  refine AllReadyH.cons rfl (fun K hK => ?_) AllReadyH.nil
                  rw [if_pos (by rfl)]
                  have hc29 := hO29.cap; have hob29 := OwI.ob2 hO29; refine wp_append_ints (.tmp 113) (.tmp 114) 27 rfl i0 Try.underlying27 hii hiz his hib rfl hO29 rfl (RI.ext HT.out.tb hH) (by omega) hE29.size hc29.1 (fun A31 c31 w31 hO31 hg31 hat31 => ?_); have hE31 := Ext.grown hE29 hg31 (fun b hb => (hob29 b hb).1)
                  refine hK.out _ _ (Ext.trans hH29 hE31) (fun hH9 => ?_)
                  clear hK; have hH0 := hH; clear hH; have hH := hH9; clear hH9
                  try simp only [Act.put, List.setIfInBounds_toArray, List.set_cons_zero, List.set_cons_succ]
                  refine wpAnyH_ready (rs := [32]) (by kernel_rfl) (by simp) ?_
                  refine AllReadyH.cons rfl (fun K hK => ?_) AllReadyH.nil
                  rw [if_pos (by rfl)]
                  go_wp2_with fail
                  (with_reducible refine (c_kboLessB HCL.out (RdSig.mk (HT.out.ext hH).sg) (RdWt.mk (HT.out.ext hH).sy (HT.out.ext hH).rk) (RdIc.mk hc26 (by rw [HCA.out]; exact RI.ext hO26b hE31)) (RdIc.mk hO31.cap (by rw [HCB.out]; exact hO31.ri))).mono ?_)
                  rintro e w9 ⟨rfl, hE9⟩
                  refine hK.out _ _ (Ext.trans hH hE9) (fun hH9 => ?_)
                  clear hK; have hH0 := hH; clear hH; have hH := hH9; clear hH9
                  try simp only [Act.put, List.setIfInBounds_toArray, List.set_cons_zero, List.set_cons_succ]
                  refine wpAnyH_take_dst (i := 33) (v := .bool true) (d := some 117) rfl rfl (by kernel_rfl) (by kernel_rfl) (by kernel_rfl) (fun _ _ _ h => h) (Or.inl ⟨by rfl, ?_⟩) hH ?_
                  · (intro w' hE'; (try dsimp only at hE'); have y0 := Ext.keep hE' HT.out.s0; have y1 := Ext.keep hE' HT.out.q0; have y2 := Ext.keep hE' HT.out.q1; have y3 := Ext.keep hE' HT.out.q2; go_simp; try with_reducible rfl)
                  try simp only [Act.put, List.setIfInBounds_toArray, List.set_cons_zero, List.set_cons_succ]
                  refine wpAnyH_take_dst (i := 34) (v := .bool true) (d := some 2) rfl rfl (by kernel_rfl) (by kernel_rfl) (by kernel_rfl) (fun _ _ _ h => h) (Or.inl ⟨by rfl, ?_⟩) hH ?_
                  · (intro w' hE'; (try dsimp only at hE'); have y0 := Ext.keep hE' HT.out.s0; have y1 := Ext.keep hE' HT.out.q0; have y2 := Ext.keep hE' HT.out.q1; have y3 := Ext.keep hE' HT.out.q2; go_simp; try with_reducible rfl)
                  try simp only [Act.put, List.setIfInBounds_toArray, List.set_cons_zero, List.set_cons_succ]
                  refine wpAnyH_done (by kernel_rfl) ?_ _
                  exact ⟨_, _, A24, c24, A26, c26, A29, c29, A31, c31, by rfl, hH⟩
                · rw [if_pos (by rfl)]
                  go_wp2_with fail
                  refine hK.out _ _ (hH.alloc _) (fun hH9 => ?_)
                  clear hK; have hH0 := hH; clear hH; have hH := hH9; clear hH9
                  try simp only [Act.put, List.setIfInBounds_toArray, List.set_cons_zero, List.set_cons_succ]
                  refine wpAnyH_ready (rs := [26]) (by kernel_rfl) (by simp) ?_
                  refine AllReadyH.cons rfl (fun K hK => ?_) AllReadyH.nil
                  rw [if_pos (by rfl)]
                  have hs26 := hH24.size; have hO24b := OwI.lower (B' := w11.heap.size) (OwI.alloc hO24 (.cells #[] 2)) hs26; have hc26 := hO24b.cap; refine wp_append_ints (.tmp 108) (.tmp 109) 27 rfl i0 Try.underlying27 hii hiz his hib (D := w11.heap.size) rfl hO24b rfl (RI.ext HT.out.ta hH) (by omega) hH.size hc26.1 (fun A26 c26 w26 hO26 hg26 hat26 => ?_); have hob26 := OwI.ob2 hO24b
                  refine hK.out _ _ (Ext.grown hH hg26 (fun b hb => (hob26 b hb).1)) (fun hH9 => ?_)
                  clear hK; have hH0 := hH; clear hH; have hH := hH9; clear hH9
                  try simp only [Act.put, List.setIfInBounds_toArray, List.set_cons_zero, List.set_cons_succ]
                  refine wpAnyH_ready (rs := [29]) (by kernel_rfl) (by simp) ?_
                  refine AllReadyH.cons rfl (fun K hK => ?_) AllReadyH.nil
                  rw [if_pos (by rfl)]
                  have hH29 := hH; have hO26b := hO26.ri; have hc26 := hO26.cap; refine wp_append_fresh (.tmp 111) (.tmp 112) 27 rfl i0 Try.underlying27 hii hiz his hib rfl rfl (RI.ext HRA.out hH) (by omega) (fun A29 c29 w29 hO29 hE29 => ?_)
                  refine hK.out _ _ (Ext.trans hH hE29) (fun hH9 => ?_)
                  clear hK; have hH0 := hH; clear hH; have hH := hH9; clear hH9
                  try simp only [Act.put, List.setIfInBounds_toArray, List.set_cons_zero, List.set_cons_succ]
                  refine wpAnyH_ready (rs := [31]) (by kernel_rfl) (by simp) ?_
                  refine AllReadyH.cons rfl (fun K hK => ?_) AllReadyH.nil
                  rw [if_pos (by rfl)]
                  have hc29 := hO29.cap; have hob29 := OwI.ob2 hO29; refine wp_append_ints (.tmp 113) (.tmp 114) 27 rfl i0 Try.underlying27 hii hiz his hib rfl hO29 rfl (RI.ext HT.out.tb hH) (by omega) hE29.size hc29.1 (fun A31 c31 w31 hO31 hg31 hat31 => ?_); have hE31 := Ext.grown hE29 hg31 (fun b hb => (hob29 b hb).1)
                  refine hK.out _ _ (Ext.trans hH29 hE31) (fun hH9 => ?_)
                  clear hK; have hH0 := hH; clear hH; have hH := hH9; clear hH9
                  try simp only [Act.put, List.setIfInBounds_toArray, List.set_cons_zero, List.set_cons_succ]
                  refine wpAnyH_ready (rs := [32]) (by kernel_rfl) (by simp) ?_
                  refine AllReadyH.cons rfl (fun K hK => ?_) AllReadyH.nil
                  rw [if_pos (by rfl)]
                  go_wp2_with fail
                  (with_reducible refine (c_kboLessB HCL.out (RdSig.mk (HT.out.ext hH).sg) (RdWt.mk (HT.out.ext hH).sy (HT.out.ext hH).rk) (RdIc.mk hc26 (by rw [HCA.out]; exact RI.ext hO26b hE31)) (RdIc.mk hO31.cap (by rw [HCB.out]; exact hO31.ri))).mono ?_)
                  rintro e w9 ⟨rfl, hE9⟩
                  refine hK.out _ _ (Ext.trans hH hE9) (fun hH9 => ?_)
                  clear hK; have hH0 := hH; clear hH; have hH := hH9; clear hH9
                  try simp only [Act.put, List.setIfInBounds_toArray, List.set_cons_zero, List.set_cons_succ]
                  refine wpAnyH_take_dst (i := 33) (v := .bool true) (d := some 117) rfl rfl (by kernel_rfl) (by kernel_rfl) (by kernel_rfl) (fun _ _ _ h => h) (Or.inl ⟨by rfl, ?_⟩) hH ?_
                  · (intro w' hE'; (try dsimp only at hE'); have y0 := Ext.keep hE' HT.out.s0; have y1 := Ext.keep hE' HT.out.q0; have y2 := Ext.keep hE' HT.out.q1; have y3 := Ext.keep hE' HT.out.q2; go_simp; try with_reducible rfl)
                  try simp only [Act.put, List.setIfInBounds_toArray, List.set_cons_zero, List.set_cons_succ]
                  refine wpAnyH_take_dst (i := 34) (v := .bool true) (d := some 2) rfl rfl (by kernel_rfl) (by kernel_rfl) (by kernel_rfl) (fun _ _ _ h => h) (Or.inl ⟨by rfl, ?_⟩) hH ?_
                  · (intro w' hE'; (try dsimp only at hE'); have y0 := Ext.keep hE' HT.out.s0; have y1 := Ext.keep hE' HT.out.q0; have y2 := Ext.keep hE' HT.out.q1; have y3 := Ext.keep hE' HT.out.q2; go_simp; try with_reducible rfl)
                  try simp only [Act.put, List.setIfInBounds_toArray, List.set_cons_zero, List.set_cons_succ]
                  refine wpAnyH_done (by kernel_rfl) ?_ _
                  exact ⟨_, _, A24, c24, A26, c26, A29, c29, A31, c31, by rfl, hH⟩
              · rw [if_pos (by rfl)]
                go_wp2_with fail
                refine hK.out _ _ (hH.alloc _) (fun hH9 => ?_)
                clear hK; have hH0 := hH; clear hH; have hH := hH9; clear hH9
                try simp only [Act.put, List.setIfInBounds_toArray, List.set_cons_zero, List.set_cons_succ]
                refine wpAnyH_ready (rs := [24]) (by kernel_rfl) (by simp) ?_
                refine AllReadyH.cons rfl (fun K hK => ?_) AllReadyH.nil
                rw [if_pos (by rfl)]
                have hH24 := hH; refine wp_append_fresh (.tmp 106) (.tmp 107) 27 rfl i0 Try.underlying27 hii hiz his hib rfl rfl (RI.ext HRA.out hH) (by omega) (fun A24 c24 w24 hO24 hE24 => ?_)
                refine hK.out _ _ (Ext.trans hH hE24) (fun hH9 => ?_)
                clear hK; have hH0 := hH; clear hH; have hH := hH9; clear hH9
                try simp only [Act.put, List.setIfInBounds_toArray, List.set_cons_zero, List.set_cons_succ]
                refine wpAnyH_ready (rs := [26]) (by kernel_rfl) (by simp) ?_
                refine AllReadyH.cons rfl (fun K hK => ?_) AllReadyH.nil
                rw [if_pos (by rfl)]
                have hs26 := hH24.size; have hO24b := OwI.lower (B' := w11.heap.size) hO24 hs26; have hc26 := hO24b.cap; refine wp_append_ints (.tmp 108) (.tmp 109) 27 rfl i0 Try.underlying27 hii hiz his hib (D := w11.heap.size) rfl hO24b rfl (RI.ext HT.out.ta hH) (by omega) hH.size hc26.1 (fun A26 c26 w26 hO26 hg26 hat26 => ?_); have hob26 := OwI.ob2 hO24b
                refine hK.out _ _ (Ext.grown hH hg26 (fun b hb => (hob26 b hb).1)) (fun hH9 => ?_)
                clear hK; have hH0 := hH; clear hH; have hH := hH9; clear hH9
                try simp only [Act.put, List.setIfInBounds_toArray, List.set_cons_zero, List.set_cons_succ]
                refine wpAnyH_ready (rs := [29]) (by kernel_rfl) (by simp) ?_
                refine AllReadyH.cons rfl (fun K hK => ?_) AllReadyH.nil
                rw [if_pos (by rfl)]
                have hH29 := hH; have hO26b := hO26.ri; have hc26 := hO26.cap; refine wp_append_fresh (.tmp 111) (.tmp 112) 27 rfl i0 Try.underlying27 hii hiz his hib rfl rfl (RI.ext HRA.out hH) (by omega) (fun A29 c29 w29 hO29 hE29 => ?_)
                refine hK.out _ _ (Ext.trans hH hE29) (fun hH9 => ?_)
                clear hK; have hH0 := hH; clear hH; have hH := hH9; clear hH9
                try simp only [Act.put, List.setIfInBounds_toArray, List.set_cons_zero, List.set_cons_succ]
                refine wpAnyH_ready (rs := [31]) (by kernel_rfl) (by simp) ?_
                refine AllReadyH.cons rfl (fun K hK => ?_) AllReadyH.nil
                rw [if_pos (by rfl)]
                have hc29 := hO29.cap; have hob29 := OwI.ob2 hO29; refine wp_append_ints (.tmp 113) (.tmp 114) 27 rfl i0 Try.underlying27 hii hiz his hib rfl hO29 rfl (RI.ext HT.out.tb hH) (by omega) hE29.size hc29.1 (fun A31 c31 w31 hO31 hg31 hat31 => ?_); have hE31 := Ext.grown hE29 hg31 (fun b hb => (hob29 b hb).1)
                refine hK.out _ _ (Ext.trans hH29 hE31) (fun hH9 => ?_)
                clear hK; have hH0 := hH; clear hH; have hH := hH9; clear hH9
                try simp only [Act.put, List.setIfInBounds_toArray, List.set_cons_zero, List.set_cons_succ]
                refine wpAnyH_ready (rs := [32]) (by kernel_rfl) (by simp) ?_
                refine AllReadyH.cons rfl (fun K hK => ?_) AllReadyH.nil
                rw [if_pos (by rfl)]
                go_wp2_with fail
                (with_reducible refine (c_kboLessB HCL.out (RdSig.mk (HT.out.ext hH).sg) (RdWt.mk (HT.out.ext hH).sy (HT.out.ext hH).rk) (RdIc.mk hc26 (by rw [HCA.out]; exact RI.ext hO26b hE31)) (RdIc.mk hO31.cap (by rw [HCB.out]; exact hO31.ri))).mono ?_)
                rintro e w9 ⟨rfl, hE9⟩
                refine hK.out _ _ (Ext.trans hH hE9) (fun hH9 => ?_)
                clear hK; have hH0 := hH; clear hH; have hH := hH9; clear hH9
                try simp only [Act.put, List.setIfInBounds_toArray, List.set_cons_zero, List.set_cons_succ]
                refine wpAnyH_take_dst (i := 33) (v := .bool true) (d := some 117) rfl rfl (by kernel_rfl) (by kernel_rfl) (by kernel_rfl) (fun _ _ _ h => h) (Or.inl ⟨by rfl, ?_⟩) hH ?_
                · (intro w' hE'; (try dsimp only at hE'); have y0 := Ext.keep hE' HT.out.s0; have y1 := Ext.keep hE' HT.out.q0; have y2 := Ext.keep hE' HT.out.q1; have y3 := Ext.keep hE' HT.out.q2; go_simp; try with_reducible rfl)
                try simp only [Act.put, List.setIfInBounds_toArray, List.set_cons_zero, List.set_cons_succ]
                refine wpAnyH_take_dst (i := 34) (v := .bool true) (d := some 2) rfl rfl (by kernel_rfl) (by kernel_rfl) (by kernel_rfl) (fun _ _ _ h => h) (Or.inl ⟨by rfl, ?_⟩) hH ?_
                · (intro w' hE'; (try dsimp only at hE'); have y0 := Ext.keep hE' HT.out.s0; have y1 := Ext.keep hE' HT.out.q0; have y2 := Ext.keep hE' HT.out.q1; have y3 := Ext.keep hE' HT.out.q2; go_simp; try with_reducible rfl)
                try simp only [Act.put, List.setIfInBounds_toArray, List.set_cons_zero, List.set_cons_succ]
                refine wpAnyH_done (by kernel_rfl) ?_ _
                exact ⟨_, _, A24, c24, A26, c26, A29, c29, A31, c31, by rfl, hH⟩
            · rw [if_pos (by rfl)]
              go_wp2_with fail
              refine hK.out _ _ (hH.alloc _) (fun hH9 => ?_)
              clear hK; have hH0 := hH; clear hH; have hH := hH9; clear hH9
              try simp only [Act.put, List.setIfInBounds_toArray, List.set_cons_zero, List.set_cons_succ]
              refine wpAnyH_ready (rs := [22]) (by kernel_rfl) (by simp) ?_
              refine AllReadyH.cons rfl (fun K hK => ?_) AllReadyH.nil
              rw [if_pos (by rfl)]
              go_wp2_with fail
              refine hK.out _ _ (hH.alloc _) (fun hH9 => ?_)
              clear hK; have hH0 := hH; clear hH; have hH := hH9; clear hH9
              try simp only [Act.put, List.setIfInBounds_toArray, List.set_cons_zero, List.set_cons_succ]
              refine wpAnyH_ready (rs := [24]) (by kernel_rfl) (by simp) ?_
              refine AllReadyH.cons rfl (fun K hK => ?_) AllReadyH.nil
              rw [if_pos (by rfl)]
              have hH24 := hH; refine wp_append_fresh (.tmp 106) (.tmp 107) 27 rfl i0 Try.underlying27 hii hiz his hib rfl rfl (RI.ext HRA.out hH) (by omega) (fun A24 c24 w24 hO24 hE24 => ?_)
              refine hK.out _ _ (Ext.trans hH hE24) (fun hH9 => ?_)
              clear hK; have hH0 := hH; clear hH; have hH := hH9; clear hH9
              try simp only [Act.put, List.setIfInBounds_toArray, List.set_cons_zero, List.set_cons_succ]
              refine wpAnyH_ready (rs := [26]) (by kernel_rfl) (by simp) ?_
              refine AllReadyH.cons rfl (fun K hK => ?_) AllReadyH.nil
              rw [if_pos (by rfl)]
              have hs26 := hH24.size; have hO24b := OwI.lower (B' := w11.heap.size) hO24 hs26; have hc26 := hO24b.cap; refine wp_append_ints (.tmp 108) (.tmp 109) 27 rfl i0 Try.underlying27 hii hiz his hib (D := w11.heap.size) rfl hO24b rfl (RI.ext HT.out.ta hH) (by omega) hH.size hc26.1 (fun A26 c26 w26 hO26 hg26 hat26 => ?_); have hob26 := OwI.ob2 hO24b
              refine hK.out _ _ (Ext.grown hH hg26 (fun b hb => (hob26 b hb).1)) (fun hH9 => ?_)
              clear hK; have hH0 := hH; clear hH; have hH := hH9; clear hH9
              try simp only [Act.put, List.setIfInBounds_toArray, List.set_cons_zero, List.set_cons_succ]
              refine wpAnyH_ready (rs := [29]) (by kernel_rfl) (by simp) ?_
              refine AllReadyH.cons rfl (fun K hK => ?_) AllReadyH.nil
              rw [if_pos (by rfl)]
              have hH29 := hH; have hO26b := hO26.ri; have hc26 := hO26.cap; refine wp_append_fresh (.tmp 111) (.tmp 112) 27 rfl i0 Try.underlying27 hii hiz his hib rfl rfl (RI.ext HRA.out hH) (by omega) (fun A29 c29 w29 hO29 hE29 => ?_)
              refine hK.out _ _ (Ext.trans hH hE29) (fun hH9 => ?_)
              clear hK; have hH0 := hH; clear hH; have hH := hH9; clear hH9
              try simp only [Act.put, List.setIfInBounds_toArray, List.set_cons_zero, List.set_cons_succ]
              refine wpAnyH_ready (rs := [31]) (by kernel_rfl) (by simp) ?_
              refine AllReadyH.cons rfl (fun K hK => ?_) AllReadyH.nil
              rw [if_pos (by rfl)]
              have hc29 := hO29.cap; have hob29 := OwI.ob2 hO29; refine wp_append_ints (.tmp 113) (.tmp 114) 27 rfl i0 Try.underlying27 hii hiz his hib rfl hO29 rfl (RI.ext HT.out.tb hH) (by omega) hE29.size hc29.1 (fun A31 c31 w31 hO31 hg31 hat31 => ?_); have hE31 := Ext.grown hE29 hg31 (fun b hb => (hob29 b hb).1)
              refine hK.out _ _ (Ext.trans hH29 hE31) (fun hH9 => ?_)
              clear hK; have hH0 := hH; clear hH; have hH := hH9; clear hH9
              try simp only [Act.put, List.setIfInBounds_toArray, List.set_cons_zero, List.set_cons_succ]
              refine wpAnyH_ready (rs := [32]) (by kernel_rfl) (by simp) ?_
              refine AllReadyH.cons rfl (fun K hK => ?_) AllReadyH.nil
              rw [if_pos (by rfl)]
              go_wp2_with fail
              (with_reducible refine (c_kboLessB HCL.out (RdSig.mk (HT.out.ext hH).sg) (RdWt.mk (HT.out.ext hH).sy (HT.out.ext hH).rk) (RdIc.mk hc26 (by rw [HCA.out]; exact RI.ext hO26b hE31)) (RdIc.mk hO31.cap (by rw [HCB.out]; exact hO31.ri))).mono ?_)
              rintro e w9 ⟨rfl, hE9⟩
              refine hK.out _ _ (Ext.trans hH hE9) (fun hH9 => ?_)
              clear hK; have hH0 := hH; clear hH; have hH := hH9; clear hH9
              try simp only [Act.put, List.setIfInBounds_toArray, List.set_cons_zero, List.set_cons_succ]
              refine wpAnyH_take_dst (i := 33) (v := .bool true) (d := some 117) rfl rfl (by kernel_rfl) (by kernel_rfl) (by kernel_rfl) (fun _ _ _ h => h) (Or.inl ⟨by rfl, ?_⟩) hH ?_
              · (intro w' hE'; (try dsimp only at hE'); have y0 := Ext.keep hE' HT.out.s0; have y1 := Ext.keep hE' HT.out.q0; have y2 := Ext.keep hE' HT.out.q1; have y3 := Ext.keep hE' HT.out.q2; go_simp; try with_reducible rfl)
              try simp only [Act.put, List.setIfInBounds_toArray, List.set_cons_zero, List.set_cons_succ]
              refine wpAnyH_take_dst (i := 34) (v := .bool true) (d := some 2) rfl rfl (by kernel_rfl) (by kernel_rfl) (by kernel_rfl) (fun _ _ _ h => h) (Or.inl ⟨by rfl, ?_⟩) hH ?_
              · (intro w' hE'; (try dsimp only at hE'); have y0 := Ext.keep hE' HT.out.s0; have y1 := Ext.keep hE' HT.out.q0; have y2 := Ext.keep hE' HT.out.q1; have y3 := Ext.keep hE' HT.out.q2; go_simp; try with_reducible rfl)
              try simp only [Act.put, List.setIfInBounds_toArray, List.set_cons_zero, List.set_cons_succ]
              refine wpAnyH_done (by kernel_rfl) ?_ _
              exact ⟨_, _, A24, c24, A26, c26, A29, c29, A31, c31, by rfl, hH⟩
          obtain ⟨qa, qb, A24, c24, A26, c26, A29, c29, A31, c31, ha, hE12⟩ := hR
          simp only [Act.put, List.setIfInBounds_toArray, List.set_cons_zero, List.set_cons_succ] at ha
          subst ha
          go_wp2_with fail
          go_ret
          exact ⟨rfl, Ext.trans hE011 hE12⟩
        | some y2 =>
          have HFL := Lib.hid (show kboLess ar3 W x y2 = true from filled_less HW.out HSU.out HOA.out HOB.out HPA.out HPB.out HK0.out HOAA.out HOBB.out)
          simp only [Option.getD_some] at HFA HFB
          go_wp2_with fail
          rw [← hrn]
          clear hrn
          refine wp_only (R := fun (a0 : Act) (a8 : Act) (w9 : World) => ∃ (qa : Nat) (qb : Nat) (A24 : Option Addr) (c24 : Nat) (A26 : Option Addr) (c26 : Nat) (A29 : Option Addr) (c29 : Nat) (A31 : Option Addr) (c31 : Nat), a8 = (((((((((((((((((((((((((((((((((((a0.put (some 84) (.agg #[.slice AS 3 cS])).put (some 85) (.slice TA na ca)).put (some 86) (.slice TB nb cb)).put (some 87) (.bool true)).put (some 88) (.bool true)).put (some 89) (.bool true)).put (some 90) (.bool false)).put (some 91) (.bool false)).put (some 92) (.bool true)).put (some 93) (.bool false)).put (some 94) (.bool false)).put (some 95) (.bool false)).put (some 96) (.agg #[.slice AS 3 cS])).put (some 97) (.agg #[.int .i64 W.var, .slice SA 3 3, .slice SB 3 3])).put (some 98) (.slice FA fa cfa)).put (some 99) (.slice FB fb cfb)).put (some 100) (.bool true)).put (some 101) (.bool true)).put (some 102) (.bool true)).put (some 103) (.bool true)).put (some 104) (.agg #[.slice AS 3 cS])).put (some 105) (.agg #[.int .i64 W.var, .slice SA 3 3, .slice SB 3 3])).put (some 107) (.slice RA rn rc)).put (some 109) (.slice TA na ca)).put (some 112) (.slice RA rn rc)).put (some 114) (.slice TB nb cb)).put (some 106) (.slice (some ⟨qa, 0, none⟩) 0 0)).put (some 111) (.slice (some ⟨qb, 0, none⟩) 0 0)).put (some 108) (.slice A24 rn c24)).put (some 110) (.slice A26 (rn + na) c26)).put (some 113) (.slice A29 rn c29)).put (some 115) (.slice A31 (rn + nb) c31)).put (some 116) (.bool true)).put (some 117) (.bool true)).put (some 2) (.bool true)) ∧ Ext w11 w9) ?_ (fun a8 w12 hR => ?_)
          · refine wp_region_held_drew (S := (fun w' => Ext w11 w')) (by kernel_rfl) ((Ext.refl w11).drew) (fun hH => ?_)
            refine wpAnyH_take_dst (i := 0) (v := .agg #[.slice AS 3 cS]) (d := some 84) rfl rfl (by kernel_rfl) (by kernel_rfl) (by kernel_rfl) (fun _ _ _ h => h) (Or.inl ⟨by rfl, ?_⟩) hH ?_
            · (intro w' hE'; (try dsimp only at hE'); have y0 := Ext.keep hE' HT.out.s0; have y1 := Ext.keep hE' HT.out.q0; have y2 := Ext.keep hE' HT.out.q1; have y3 := Ext.keep hE' HT.out.q2; go_simp; try with_reducible rfl)
            try simp only [Act.put, List.setIfInBounds_toArray, List.set_cons_zero, List.set_cons_succ]
            refine wpAnyH_take_dst (i := 1) (v := .slice TA na ca) (d := some 85) rfl rfl (by kernel_rfl) (by kernel_rfl) (by kernel_rfl) (fun _ _ _ h => h) (Or.inl ⟨by rfl, ?_⟩) hH ?_
            · (intro w' hE'; (try dsimp only at hE'); have y0 := Ext.keep hE' HT.out.s0; have y1 := Ext.keep hE' HT.out.q0; have y2 := Ext.keep hE' HT.out.q1; have y3 := Ext.keep hE' HT.out.q2; go_simp; try with_reducible rfl)
            try simp only [Act.put, List.setIfInBounds_toArray, List.set_cons_zero, List.set_cons_succ]
            refine wpAnyH_take_dst (i := 2) (v := .slice TB nb cb) (d := some 86) rfl rfl (by kernel_rfl) (by kernel_rfl) (by kernel_rfl) (fun _ _ _ h => h) (Or.inl ⟨by rfl, ?_⟩) hH ?_
            · (intro w' hE'; (try dsimp only at hE'); have y0 := Ext.keep hE' HT.out.s0; have y1 := Ext.keep hE' HT.out.q0; have y2 := Ext.keep hE' HT.out.q1; have y3 := Ext.keep hE' HT.out.q2; go_simp; try with_reducible rfl)
            try simp only [Act.put, List.setIfInBounds_toArray, List.set_cons_zero, List.set_cons_succ]
            refine wpAnyH_ready (rs := [3]) (by kernel_rfl) (by simp) ?_
            refine AllReadyH.cons rfl (fun K hK => ?_) AllReadyH.nil
            rw [if_pos (by rfl)]
            go_wp2_with fail
            (with_reducible refine (c_oftenB HOFT.out (RdSig.mk (HT.out.ext hH).sg) (RdI.mk (HT.out.ext hH).ta) (RdI.mk (HT.out.ext hH).tb)).mono ?_)
            rintro e w9 ⟨rfl, hE9⟩
            refine hK.out _ _ (Ext.trans hH hE9) (fun hH9 => ?_)
            clear hK; have hH0 := hH; clear hH; have hH := hH9; clear hH9
            try simp only [Act.put, List.setIfInBounds_toArray, List.set_cons_zero, List.set_cons_succ]
            refine wpAnyH_take_dst (i := 4) (v := .bool true) (d := some 88) rfl rfl (by kernel_rfl) (by kernel_rfl) (by kernel_rfl) (fun _ _ _ h => h) (Or.inl ⟨by rfl, ?_⟩) hH ?_
            · (intro w' hE'; (try dsimp only at hE'); have y0 := Ext.keep hE' HT.out.s0; have y1 := Ext.keep hE' HT.out.q0; have y2 := Ext.keep hE' HT.out.q1; have y3 := Ext.keep hE' HT.out.q2; go_simp; try with_reducible rfl)
            try simp only [Act.put, List.setIfInBounds_toArray, List.set_cons_zero, List.set_cons_succ]
            refine wpAnyH_take_dst (i := 5) (v := .bool true) (d := some 89) rfl rfl (by kernel_rfl) (by kernel_rfl) (by kernel_rfl) (fun _ _ _ h => h) (Or.inl ⟨by rfl, ?_⟩) hH ?_
            · (intro w' hE'; (try dsimp only at hE'); have y0 := Ext.keep hE' HT.out.s0; have y1 := Ext.keep hE' HT.out.q0; have y2 := Ext.keep hE' HT.out.q1; have y3 := Ext.keep hE' HT.out.q2; go_simp; try with_reducible rfl)
            try simp only [Act.put, List.setIfInBounds_toArray, List.set_cons_zero, List.set_cons_succ]
            refine wpAnyH_take_dst (i := 6) (v := .bool false) (d := some 90) rfl rfl (by kernel_rfl) (by kernel_rfl) (by kernel_rfl) (fun _ _ _ h => h) (Or.inl ⟨by rfl, ?_⟩) hH ?_
            · (intro w' hE'; (try dsimp only at hE'); have y0 := Ext.keep hE' HT.out.s0; have y1 := Ext.keep hE' HT.out.q0; have y2 := Ext.keep hE' HT.out.q1; have y3 := Ext.keep hE' HT.out.q2; go_simp; try with_reducible rfl)
            try simp only [Act.put, List.setIfInBounds_toArray, List.set_cons_zero, List.set_cons_succ]
            refine wpAnyH_take_dst (i := 7) (v := .bool false) (d := some 91) rfl rfl (by kernel_rfl) (by kernel_rfl) (by kernel_rfl) (fun _ _ _ h => h) (Or.inl ⟨by rfl, ?_⟩) hH ?_
            · (intro w' hE'; (try dsimp only at hE'); have y0 := Ext.keep hE' HT.out.s0; have y1 := Ext.keep hE' HT.out.q0; have y2 := Ext.keep hE' HT.out.q1; have y3 := Ext.keep hE' HT.out.q2; go_simp; try with_reducible rfl)
            try simp only [Act.put, List.setIfInBounds_toArray, List.set_cons_zero, List.set_cons_succ]
            refine wpAnyH_take_dst (i := 8) (v := .bool true) (d := some 92) rfl rfl (by kernel_rfl) (by kernel_rfl) (by kernel_rfl) (fun _ _ _ h => h) (Or.inl ⟨by rfl, ?_⟩) hH ?_
            · (intro w' hE'; (try dsimp only at hE'); have y0 := Ext.keep hE' HT.out.s0; have y1 := Ext.keep hE' HT.out.q0; have y2 := Ext.keep hE' HT.out.q1; have y3 := Ext.keep hE' HT.out.q2; go_simp; try with_reducible rfl)
            try simp only [Act.put, List.setIfInBounds_toArray, List.set_cons_zero, List.set_cons_succ]
            refine wpAnyH_take_dst (i := 9) (v := .bool false) (d := some 93) rfl rfl (by kernel_rfl) (by kernel_rfl) (by kernel_rfl) (fun _ _ _ h => h) (Or.inl ⟨by rfl, ?_⟩) hH ?_
            · (intro w' hE'; (try dsimp only at hE'); have y0 := Ext.keep hE' HT.out.s0; have y1 := Ext.keep hE' HT.out.q0; have y2 := Ext.keep hE' HT.out.q1; have y3 := Ext.keep hE' HT.out.q2; go_simp; try with_reducible rfl)
            try simp only [Act.put, List.setIfInBounds_toArray, List.set_cons_zero, List.set_cons_succ]
            refine wpAnyH_take_dst (i := 10) (v := .bool false) (d := some 94) rfl rfl (by kernel_rfl) (by kernel_rfl) (by kernel_rfl) (fun _ _ _ h => h) (Or.inl ⟨by rfl, ?_⟩) hH ?_
            · (intro w' hE'; (try dsimp only at hE'); have y0 := Ext.keep hE' HT.out.s0; have y1 := Ext.keep hE' HT.out.q0; have y2 := Ext.keep hE' HT.out.q1; have y3 := Ext.keep hE' HT.out.q2; go_simp; try with_reducible rfl)
            try simp only [Act.put, List.setIfInBounds_toArray, List.set_cons_zero, List.set_cons_succ]
            refine wpAnyH_take_dst (i := 11) (v := .bool false) (d := some 95) rfl rfl (by kernel_rfl) (by kernel_rfl) (by kernel_rfl) (fun _ _ _ h => h) (Or.inl ⟨by rfl, ?_⟩) hH ?_
            · (intro w' hE'; (try dsimp only at hE'); have y0 := Ext.keep hE' HT.out.s0; have y1 := Ext.keep hE' HT.out.q0; have y2 := Ext.keep hE' HT.out.q1; have y3 := Ext.keep hE' HT.out.q2; go_simp; try with_reducible rfl)
            try simp only [Act.put, List.setIfInBounds_toArray, List.set_cons_zero, List.set_cons_succ]
            refine wpAnyH_take_dst (i := 12) (v := .agg #[.slice AS 3 cS]) (d := some 96) rfl rfl (by kernel_rfl) (by kernel_rfl) (by kernel_rfl) (fun _ _ _ h => h) (Or.inl ⟨by rfl, ?_⟩) hH ?_
            · (intro w' hE'; (try dsimp only at hE'); have y0 := Ext.keep hE' HT.out.s0; have y1 := Ext.keep hE' HT.out.q0; have y2 := Ext.keep hE' HT.out.q1; have y3 := Ext.keep hE' HT.out.q2; go_simp; try with_reducible rfl)
            try simp only [Act.put, List.setIfInBounds_toArray, List.set_cons_zero, List.set_cons_succ]
            refine wpAnyH_take_dst (i := 13) (v := .agg #[.int .i64 W.var, .slice SA 3 3, .slice SB 3 3]) (d := some 97) rfl rfl (by kernel_rfl) (by kernel_rfl) (by kernel_rfl) (fun _ _ _ h => h) (Or.inl ⟨by rfl, ?_⟩) hH ?_
            · (intro w' hE'; (try dsimp only at hE'); have y0 := Ext.keep hE' HT.out.s0; have y1 := Ext.keep hE' HT.out.q0; have y2 := Ext.keep hE' HT.out.q1; have y3 := Ext.keep hE' HT.out.q2; go_simp; try with_reducible rfl)
            try simp only [Act.put, List.setIfInBounds_toArray, List.set_cons_zero, List.set_cons_succ]
            refine wpAnyH_take_dst (i := 14) (v := .slice FA fa cfa) (d := some 98) rfl rfl (by kernel_rfl) (by kernel_rfl) (by kernel_rfl) (fun _ _ _ h => h) (Or.inl ⟨by rfl, ?_⟩) hH ?_
            · (intro w' hE'; (try dsimp only at hE'); have y0 := Ext.keep hE' HT.out.s0; have y1 := Ext.keep hE' HT.out.q0; have y2 := Ext.keep hE' HT.out.q1; have y3 := Ext.keep hE' HT.out.q2; go_simp; try with_reducible rfl)
            try simp only [Act.put, List.setIfInBounds_toArray, List.set_cons_zero, List.set_cons_succ]
            refine wpAnyH_take_dst (i := 15) (v := .slice FB fb cfb) (d := some 99) rfl rfl (by kernel_rfl) (by kernel_rfl) (by kernel_rfl) (fun _ _ _ h => h) (Or.inl ⟨by rfl, ?_⟩) hH ?_
            · (intro w' hE'; (try dsimp only at hE'); have y0 := Ext.keep hE' HT.out.s0; have y1 := Ext.keep hE' HT.out.q0; have y2 := Ext.keep hE' HT.out.q1; have y3 := Ext.keep hE' HT.out.q2; go_simp; try with_reducible rfl)
            try simp only [Act.put, List.setIfInBounds_toArray, List.set_cons_zero, List.set_cons_succ]
            refine wpAnyH_ready (rs := [16]) (by kernel_rfl) (by simp) ?_
            refine AllReadyH.cons rfl (fun K hK => ?_) AllReadyH.nil
            rw [if_pos (by rfl)]
            go_wp2_with fail
            (with_reducible refine (c_kboLessB HFL.out (RdSig.mk (HT.out.ext hH).sg) (RdWt.mk (HT.out.ext hH).sy (HT.out.ext hH).rk) (RdIc.mk hcapFA (RI.ext HFA.out hH)) (RdIc.mk hcapFB (RI.ext HFB.out hH))).mono ?_)
            rintro e w9 ⟨rfl, hE9⟩
            refine hK.out _ _ (Ext.trans hH hE9) (fun hH9 => ?_)
            clear hK; have hH0 := hH; clear hH; have hH := hH9; clear hH9
            try simp only [Act.put, List.setIfInBounds_toArray, List.set_cons_zero, List.set_cons_succ]
            refine wpAnyH_take_dst (i := 17) (v := .bool true) (d := some 101) rfl rfl (by kernel_rfl) (by kernel_rfl) (by kernel_rfl) (fun _ _ _ h => h) (Or.inl ⟨by rfl, ?_⟩) hH ?_
            · (intro w' hE'; (try dsimp only at hE'); have y0 := Ext.keep hE' HT.out.s0; have y1 := Ext.keep hE' HT.out.q0; have y2 := Ext.keep hE' HT.out.q1; have y3 := Ext.keep hE' HT.out.q2; go_simp; try with_reducible rfl)
            try simp only [Act.put, List.setIfInBounds_toArray, List.set_cons_zero, List.set_cons_succ]
            refine wpAnyH_take_dst (i := 18) (v := .bool true) (d := some 102) rfl rfl (by kernel_rfl) (by kernel_rfl) (by kernel_rfl) (fun _ _ _ h => h) (Or.inl ⟨by rfl, ?_⟩) hH ?_
            · (intro w' hE'; (try dsimp only at hE'); have y0 := Ext.keep hE' HT.out.s0; have y1 := Ext.keep hE' HT.out.q0; have y2 := Ext.keep hE' HT.out.q1; have y3 := Ext.keep hE' HT.out.q2; go_simp; try with_reducible rfl)
            try simp only [Act.put, List.setIfInBounds_toArray, List.set_cons_zero, List.set_cons_succ]
            refine wpAnyH_take_dst (i := 19) (v := .bool true) (d := some 103) rfl rfl (by kernel_rfl) (by kernel_rfl) (by kernel_rfl) (fun _ _ _ h => h) (Or.inl ⟨by rfl, ?_⟩) hH ?_
            · (intro w' hE'; (try dsimp only at hE'); have y0 := Ext.keep hE' HT.out.s0; have y1 := Ext.keep hE' HT.out.q0; have y2 := Ext.keep hE' HT.out.q1; have y3 := Ext.keep hE' HT.out.q2; go_simp; try with_reducible rfl)
            try simp only [Act.put, List.setIfInBounds_toArray, List.set_cons_zero, List.set_cons_succ]
            refine wpAnyH_take_dst (i := 20) (v := .agg #[.slice AS 3 cS]) (d := some 104) rfl rfl (by kernel_rfl) (by kernel_rfl) (by kernel_rfl) (fun _ _ _ h => h) (Or.inl ⟨by rfl, ?_⟩) hH ?_
            · (intro w' hE'; (try dsimp only at hE'); have y0 := Ext.keep hE' HT.out.s0; have y1 := Ext.keep hE' HT.out.q0; have y2 := Ext.keep hE' HT.out.q1; have y3 := Ext.keep hE' HT.out.q2; go_simp; try with_reducible rfl)
            try simp only [Act.put, List.setIfInBounds_toArray, List.set_cons_zero, List.set_cons_succ]
            refine wpAnyH_take_dst (i := 21) (v := .agg #[.int .i64 W.var, .slice SA 3 3, .slice SB 3 3]) (d := some 105) rfl rfl (by kernel_rfl) (by kernel_rfl) (by kernel_rfl) (fun _ _ _ h => h) (Or.inl ⟨by rfl, ?_⟩) hH ?_
            · (intro w' hE'; (try dsimp only at hE'); have y0 := Ext.keep hE' HT.out.s0; have y1 := Ext.keep hE' HT.out.q0; have y2 := Ext.keep hE' HT.out.q1; have y3 := Ext.keep hE' HT.out.q2; go_simp; try with_reducible rfl)
            try simp only [Act.put, List.setIfInBounds_toArray, List.set_cons_zero, List.set_cons_succ]
            refine wpAnyH_take_dst (i := 23) (v := .slice RA rn rc) (d := some 107) rfl rfl (by kernel_rfl) (by kernel_rfl) (by kernel_rfl) (fun _ _ _ h => h) (Or.inl ⟨by rfl, ?_⟩) hH ?_
            · (intro w' hE'; (try dsimp only at hE'); have y0 := Ext.keep hE' HT.out.s0; have y1 := Ext.keep hE' HT.out.q0; have y2 := Ext.keep hE' HT.out.q1; have y3 := Ext.keep hE' HT.out.q2; go_simp; try with_reducible rfl)
            try simp only [Act.put, List.setIfInBounds_toArray, List.set_cons_zero, List.set_cons_succ]
            refine wpAnyH_take_dst (i := 25) (v := .slice TA na ca) (d := some 109) rfl rfl (by kernel_rfl) (by kernel_rfl) (by kernel_rfl) (fun _ _ _ h => h) (Or.inl ⟨by rfl, ?_⟩) hH ?_
            · (intro w' hE'; (try dsimp only at hE'); have y0 := Ext.keep hE' HT.out.s0; have y1 := Ext.keep hE' HT.out.q0; have y2 := Ext.keep hE' HT.out.q1; have y3 := Ext.keep hE' HT.out.q2; go_simp; try with_reducible rfl)
            try simp only [Act.put, List.setIfInBounds_toArray, List.set_cons_zero, List.set_cons_succ]
            refine wpAnyH_take_dst (i := 28) (v := .slice RA rn rc) (d := some 112) rfl rfl (by kernel_rfl) (by kernel_rfl) (by kernel_rfl) (fun _ _ _ h => h) (Or.inl ⟨by rfl, ?_⟩) hH ?_
            · (intro w' hE'; (try dsimp only at hE'); have y0 := Ext.keep hE' HT.out.s0; have y1 := Ext.keep hE' HT.out.q0; have y2 := Ext.keep hE' HT.out.q1; have y3 := Ext.keep hE' HT.out.q2; go_simp; try with_reducible rfl)
            try simp only [Act.put, List.setIfInBounds_toArray, List.set_cons_zero, List.set_cons_succ]
            refine wpAnyH_take_dst (i := 30) (v := .slice TB nb cb) (d := some 114) rfl rfl (by kernel_rfl) (by kernel_rfl) (by kernel_rfl) (fun _ _ _ h => h) (Or.inl ⟨by rfl, ?_⟩) hH ?_
            · (intro w' hE'; (try dsimp only at hE'); have y0 := Ext.keep hE' HT.out.s0; have y1 := Ext.keep hE' HT.out.q0; have y2 := Ext.keep hE' HT.out.q1; have y3 := Ext.keep hE' HT.out.q2; go_simp; try with_reducible rfl)
            try simp only [Act.put, List.setIfInBounds_toArray, List.set_cons_zero, List.set_cons_succ]
            refine wpAnyH_ready (rs := [22, 27]) (by kernel_rfl) (by simp) ?_
            refine AllReadyH.cons rfl (fun K hK => ?_) (AllReadyH.cons rfl (fun K hK => ?_) (AllReadyH.nil))
            · rw [if_pos (by rfl)]
              go_wp2_with fail
              refine hK.out _ _ (hH.alloc _) (fun hH9 => ?_)
              clear hK; have hH0 := hH; clear hH; have hH := hH9; clear hH9
              try simp only [Act.put, List.setIfInBounds_toArray, List.set_cons_zero, List.set_cons_succ]
              refine wpAnyH_ready (rs := [24, 27]) (by kernel_rfl) (by simp) ?_
              refine AllReadyH.cons rfl (fun K hK => ?_) (AllReadyH.cons rfl (fun K hK => ?_) (AllReadyH.nil))
              · rw [if_pos (by rfl)]
                have hH24 := hH; refine wp_append_fresh (.tmp 106) (.tmp 107) 27 rfl i0 Try.underlying27 hii hiz his hib rfl rfl (RI.ext HRA.out hH) (by omega) (fun A24 c24 w24 hO24 hE24 => ?_)
                refine hK.out _ _ (Ext.trans hH hE24) (fun hH9 => ?_)
                clear hK; have hH0 := hH; clear hH; have hH := hH9; clear hH9
                try simp only [Act.put, List.setIfInBounds_toArray, List.set_cons_zero, List.set_cons_succ]
                refine wpAnyH_ready (rs := [26, 27]) (by kernel_rfl) (by simp) ?_
                refine AllReadyH.cons rfl (fun K hK => ?_) (AllReadyH.cons rfl (fun K hK => ?_) (AllReadyH.nil))
                · rw [if_pos (by rfl)]
                  have hs26 := hH24.size; have hO24b := OwI.lower (B' := w11.heap.size) hO24 hs26; have hc26 := hO24b.cap; refine wp_append_ints (.tmp 108) (.tmp 109) 27 rfl i0 Try.underlying27 hii hiz his hib (D := w11.heap.size) rfl hO24b rfl (RI.ext HT.out.ta hH) (by omega) hH.size hc26.1 (fun A26 c26 w26 hO26 hg26 hat26 => ?_); have hob26 := OwI.ob2 hO24b
                  refine hK.out _ _ (Ext.grown hH hg26 (fun b hb => (hob26 b hb).1)) (fun hH9 => ?_)
                  clear hK; have hH0 := hH; clear hH; have hH := hH9; clear hH9
                  try simp only [Act.put, List.setIfInBounds_toArray, List.set_cons_zero, List.set_cons_succ]
                  refine wpAnyH_ready (rs := [27]) (by kernel_rfl) (by simp) ?_
                  refine AllReadyH.cons rfl (fun K hK => ?_) AllReadyH.nil
                  rw [if_pos (by rfl)]
                  go_wp2_with fail
                  refine hK.out _ _ (hH.alloc _) (fun hH9 => ?_)
                  clear hK; have hH0 := hH; clear hH; have hH := hH9; clear hH9
                  try simp only [Act.put, List.setIfInBounds_toArray, List.set_cons_zero, List.set_cons_succ]
                  refine wpAnyH_ready (rs := [29]) (by kernel_rfl) (by simp) ?_
                  refine AllReadyH.cons rfl (fun K hK => ?_) AllReadyH.nil
                  rw [if_pos (by rfl)]
                  have hH29 := hH; have hO26b := (OwI.alloc hO26 (.cells #[] 2)).ri; have hc26 := hO26.cap; refine wp_append_fresh (.tmp 111) (.tmp 112) 27 rfl i0 Try.underlying27 hii hiz his hib rfl rfl (RI.ext HRA.out hH) (by omega) (fun A29 c29 w29 hO29 hE29 => ?_)
                  refine hK.out _ _ (Ext.trans hH hE29) (fun hH9 => ?_)
                  clear hK; have hH0 := hH; clear hH; have hH := hH9; clear hH9
                  try simp only [Act.put, List.setIfInBounds_toArray, List.set_cons_zero, List.set_cons_succ]
                  refine wpAnyH_ready (rs := [31]) (by kernel_rfl) (by simp) ?_
                  refine AllReadyH.cons rfl (fun K hK => ?_) AllReadyH.nil
                  rw [if_pos (by rfl)]
                  have hc29 := hO29.cap; have hob29 := OwI.ob2 hO29; refine wp_append_ints (.tmp 113) (.tmp 114) 27 rfl i0 Try.underlying27 hii hiz his hib rfl hO29 rfl (RI.ext HT.out.tb hH) (by omega) hE29.size hc29.1 (fun A31 c31 w31 hO31 hg31 hat31 => ?_); have hE31 := Ext.grown hE29 hg31 (fun b hb => (hob29 b hb).1)
                  refine hK.out _ _ (Ext.trans hH29 hE31) (fun hH9 => ?_)
                  clear hK; have hH0 := hH; clear hH; have hH := hH9; clear hH9
                  try simp only [Act.put, List.setIfInBounds_toArray, List.set_cons_zero, List.set_cons_succ]
                  refine wpAnyH_ready (rs := [32]) (by kernel_rfl) (by simp) ?_
                  refine AllReadyH.cons rfl (fun K hK => ?_) AllReadyH.nil
                  rw [if_pos (by rfl)]
                  go_wp2_with fail
                  (with_reducible refine (c_kboLessB HCL.out (RdSig.mk (HT.out.ext hH).sg) (RdWt.mk (HT.out.ext hH).sy (HT.out.ext hH).rk) (RdIc.mk hc26 (by rw [HCA.out]; exact RI.ext hO26b hE31)) (RdIc.mk hO31.cap (by rw [HCB.out]; exact hO31.ri))).mono ?_)
                  rintro e w9 ⟨rfl, hE9⟩
                  refine hK.out _ _ (Ext.trans hH hE9) (fun hH9 => ?_)
                  clear hK; have hH0 := hH; clear hH; have hH := hH9; clear hH9
                  try simp only [Act.put, List.setIfInBounds_toArray, List.set_cons_zero, List.set_cons_succ]
                  refine wpAnyH_take_dst (i := 33) (v := .bool true) (d := some 117) rfl rfl (by kernel_rfl) (by kernel_rfl) (by kernel_rfl) (fun _ _ _ h => h) (Or.inl ⟨by rfl, ?_⟩) hH ?_
                  · (intro w' hE'; (try dsimp only at hE'); have y0 := Ext.keep hE' HT.out.s0; have y1 := Ext.keep hE' HT.out.q0; have y2 := Ext.keep hE' HT.out.q1; have y3 := Ext.keep hE' HT.out.q2; go_simp; try with_reducible rfl)
                  try simp only [Act.put, List.setIfInBounds_toArray, List.set_cons_zero, List.set_cons_succ]
                  refine wpAnyH_take_dst (i := 34) (v := .bool true) (d := some 2) rfl rfl (by kernel_rfl) (by kernel_rfl) (by kernel_rfl) (fun _ _ _ h => h) (Or.inl ⟨by rfl, ?_⟩) hH ?_
                  · (intro w' hE'; (try dsimp only at hE'); have y0 := Ext.keep hE' HT.out.s0; have y1 := Ext.keep hE' HT.out.q0; have y2 := Ext.keep hE' HT.out.q1; have y3 := Ext.keep hE' HT.out.q2; go_simp; try with_reducible rfl)
                  try simp only [Act.put, List.setIfInBounds_toArray, List.set_cons_zero, List.set_cons_succ]
                  refine wpAnyH_done (by kernel_rfl) ?_ _
                  exact ⟨_, _, A24, c24, A26, c26, A29, c29, A31, c31, by rfl, hH⟩
                · rw [if_pos (by rfl)]
                  go_wp2_with fail
                  refine hK.out _ _ (hH.alloc _) (fun hH9 => ?_)
                  clear hK; have hH0 := hH; clear hH; have hH := hH9; clear hH9
                  try simp only [Act.put, List.setIfInBounds_toArray, List.set_cons_zero, List.set_cons_succ]
                  refine wpAnyH_ready (rs := [26]) (by kernel_rfl) (by simp) ?_
                  refine AllReadyH.cons rfl (fun K hK => ?_) AllReadyH.nil
                  rw [if_pos (by rfl)]
                  have hs26 := hH24.size; have hO24b := OwI.lower (B' := w11.heap.size) (OwI.alloc hO24 (.cells #[] 2)) hs26; have hc26 := hO24b.cap; refine wp_append_ints (.tmp 108) (.tmp 109) 27 rfl i0 Try.underlying27 hii hiz his hib (D := w11.heap.size) rfl hO24b rfl (RI.ext HT.out.ta hH) (by omega) hH.size hc26.1 (fun A26 c26 w26 hO26 hg26 hat26 => ?_); have hob26 := OwI.ob2 hO24b
                  refine hK.out _ _ (Ext.grown hH hg26 (fun b hb => (hob26 b hb).1)) (fun hH9 => ?_)
                  clear hK; have hH0 := hH; clear hH; have hH := hH9; clear hH9
                  try simp only [Act.put, List.setIfInBounds_toArray, List.set_cons_zero, List.set_cons_succ]
                  refine wpAnyH_ready (rs := [29]) (by kernel_rfl) (by simp) ?_
                  refine AllReadyH.cons rfl (fun K hK => ?_) AllReadyH.nil
                  rw [if_pos (by rfl)]
                  have hH29 := hH; have hO26b := hO26.ri; have hc26 := hO26.cap; refine wp_append_fresh (.tmp 111) (.tmp 112) 27 rfl i0 Try.underlying27 hii hiz his hib rfl rfl (RI.ext HRA.out hH) (by omega) (fun A29 c29 w29 hO29 hE29 => ?_)
                  refine hK.out _ _ (Ext.trans hH hE29) (fun hH9 => ?_)
                  clear hK; have hH0 := hH; clear hH; have hH := hH9; clear hH9
                  try simp only [Act.put, List.setIfInBounds_toArray, List.set_cons_zero, List.set_cons_succ]
                  refine wpAnyH_ready (rs := [31]) (by kernel_rfl) (by simp) ?_
                  refine AllReadyH.cons rfl (fun K hK => ?_) AllReadyH.nil
                  rw [if_pos (by rfl)]
                  have hc29 := hO29.cap; have hob29 := OwI.ob2 hO29; refine wp_append_ints (.tmp 113) (.tmp 114) 27 rfl i0 Try.underlying27 hii hiz his hib rfl hO29 rfl (RI.ext HT.out.tb hH) (by omega) hE29.size hc29.1 (fun A31 c31 w31 hO31 hg31 hat31 => ?_); have hE31 := Ext.grown hE29 hg31 (fun b hb => (hob29 b hb).1)
                  refine hK.out _ _ (Ext.trans hH29 hE31) (fun hH9 => ?_)
                  clear hK; have hH0 := hH; clear hH; have hH := hH9; clear hH9
                  try simp only [Act.put, List.setIfInBounds_toArray, List.set_cons_zero, List.set_cons_succ]
                  refine wpAnyH_ready (rs := [32]) (by kernel_rfl) (by simp) ?_
                  refine AllReadyH.cons rfl (fun K hK => ?_) AllReadyH.nil
                  rw [if_pos (by rfl)]
                  go_wp2_with fail
                  (with_reducible refine (c_kboLessB HCL.out (RdSig.mk (HT.out.ext hH).sg) (RdWt.mk (HT.out.ext hH).sy (HT.out.ext hH).rk) (RdIc.mk hc26 (by rw [HCA.out]; exact RI.ext hO26b hE31)) (RdIc.mk hO31.cap (by rw [HCB.out]; exact hO31.ri))).mono ?_)
                  rintro e w9 ⟨rfl, hE9⟩
                  refine hK.out _ _ (Ext.trans hH hE9) (fun hH9 => ?_)
                  clear hK; have hH0 := hH; clear hH; have hH := hH9; clear hH9
                  try simp only [Act.put, List.setIfInBounds_toArray, List.set_cons_zero, List.set_cons_succ]
                  refine wpAnyH_take_dst (i := 33) (v := .bool true) (d := some 117) rfl rfl (by kernel_rfl) (by kernel_rfl) (by kernel_rfl) (fun _ _ _ h => h) (Or.inl ⟨by rfl, ?_⟩) hH ?_
                  · (intro w' hE'; (try dsimp only at hE'); have y0 := Ext.keep hE' HT.out.s0; have y1 := Ext.keep hE' HT.out.q0; have y2 := Ext.keep hE' HT.out.q1; have y3 := Ext.keep hE' HT.out.q2; go_simp; try with_reducible rfl)
                  try simp only [Act.put, List.setIfInBounds_toArray, List.set_cons_zero, List.set_cons_succ]
                  refine wpAnyH_take_dst (i := 34) (v := .bool true) (d := some 2) rfl rfl (by kernel_rfl) (by kernel_rfl) (by kernel_rfl) (fun _ _ _ h => h) (Or.inl ⟨by rfl, ?_⟩) hH ?_
                  · (intro w' hE'; (try dsimp only at hE'); have y0 := Ext.keep hE' HT.out.s0; have y1 := Ext.keep hE' HT.out.q0; have y2 := Ext.keep hE' HT.out.q1; have y3 := Ext.keep hE' HT.out.q2; go_simp; try with_reducible rfl)
                  try simp only [Act.put, List.setIfInBounds_toArray, List.set_cons_zero, List.set_cons_succ]
                  refine wpAnyH_done (by kernel_rfl) ?_ _
                  exact ⟨_, _, A24, c24, A26, c26, A29, c29, A31, c31, by rfl, hH⟩
              · rw [if_pos (by rfl)]
                go_wp2_with fail
                refine hK.out _ _ (hH.alloc _) (fun hH9 => ?_)
                clear hK; have hH0 := hH; clear hH; have hH := hH9; clear hH9
                try simp only [Act.put, List.setIfInBounds_toArray, List.set_cons_zero, List.set_cons_succ]
                refine wpAnyH_ready (rs := [24]) (by kernel_rfl) (by simp) ?_
                refine AllReadyH.cons rfl (fun K hK => ?_) AllReadyH.nil
                rw [if_pos (by rfl)]
                have hH24 := hH; refine wp_append_fresh (.tmp 106) (.tmp 107) 27 rfl i0 Try.underlying27 hii hiz his hib rfl rfl (RI.ext HRA.out hH) (by omega) (fun A24 c24 w24 hO24 hE24 => ?_)
                refine hK.out _ _ (Ext.trans hH hE24) (fun hH9 => ?_)
                clear hK; have hH0 := hH; clear hH; have hH := hH9; clear hH9
                try simp only [Act.put, List.setIfInBounds_toArray, List.set_cons_zero, List.set_cons_succ]
                refine wpAnyH_ready (rs := [26]) (by kernel_rfl) (by simp) ?_
                refine AllReadyH.cons rfl (fun K hK => ?_) AllReadyH.nil
                rw [if_pos (by rfl)]
                have hs26 := hH24.size; have hO24b := OwI.lower (B' := w11.heap.size) hO24 hs26; have hc26 := hO24b.cap; refine wp_append_ints (.tmp 108) (.tmp 109) 27 rfl i0 Try.underlying27 hii hiz his hib (D := w11.heap.size) rfl hO24b rfl (RI.ext HT.out.ta hH) (by omega) hH.size hc26.1 (fun A26 c26 w26 hO26 hg26 hat26 => ?_); have hob26 := OwI.ob2 hO24b
                refine hK.out _ _ (Ext.grown hH hg26 (fun b hb => (hob26 b hb).1)) (fun hH9 => ?_)
                clear hK; have hH0 := hH; clear hH; have hH := hH9; clear hH9
                try simp only [Act.put, List.setIfInBounds_toArray, List.set_cons_zero, List.set_cons_succ]
                refine wpAnyH_ready (rs := [29]) (by kernel_rfl) (by simp) ?_
                refine AllReadyH.cons rfl (fun K hK => ?_) AllReadyH.nil
                rw [if_pos (by rfl)]
                have hH29 := hH; have hO26b := hO26.ri; have hc26 := hO26.cap; refine wp_append_fresh (.tmp 111) (.tmp 112) 27 rfl i0 Try.underlying27 hii hiz his hib rfl rfl (RI.ext HRA.out hH) (by omega) (fun A29 c29 w29 hO29 hE29 => ?_)
                refine hK.out _ _ (Ext.trans hH hE29) (fun hH9 => ?_)
                clear hK; have hH0 := hH; clear hH; have hH := hH9; clear hH9
                try simp only [Act.put, List.setIfInBounds_toArray, List.set_cons_zero, List.set_cons_succ]
                refine wpAnyH_ready (rs := [31]) (by kernel_rfl) (by simp) ?_
                refine AllReadyH.cons rfl (fun K hK => ?_) AllReadyH.nil
                rw [if_pos (by rfl)]
                have hc29 := hO29.cap; have hob29 := OwI.ob2 hO29; refine wp_append_ints (.tmp 113) (.tmp 114) 27 rfl i0 Try.underlying27 hii hiz his hib rfl hO29 rfl (RI.ext HT.out.tb hH) (by omega) hE29.size hc29.1 (fun A31 c31 w31 hO31 hg31 hat31 => ?_); have hE31 := Ext.grown hE29 hg31 (fun b hb => (hob29 b hb).1)
                refine hK.out _ _ (Ext.trans hH29 hE31) (fun hH9 => ?_)
                clear hK; have hH0 := hH; clear hH; have hH := hH9; clear hH9
                try simp only [Act.put, List.setIfInBounds_toArray, List.set_cons_zero, List.set_cons_succ]
                refine wpAnyH_ready (rs := [32]) (by kernel_rfl) (by simp) ?_
                refine AllReadyH.cons rfl (fun K hK => ?_) AllReadyH.nil
                rw [if_pos (by rfl)]
                go_wp2_with fail
                (with_reducible refine (c_kboLessB HCL.out (RdSig.mk (HT.out.ext hH).sg) (RdWt.mk (HT.out.ext hH).sy (HT.out.ext hH).rk) (RdIc.mk hc26 (by rw [HCA.out]; exact RI.ext hO26b hE31)) (RdIc.mk hO31.cap (by rw [HCB.out]; exact hO31.ri))).mono ?_)
                rintro e w9 ⟨rfl, hE9⟩
                refine hK.out _ _ (Ext.trans hH hE9) (fun hH9 => ?_)
                clear hK; have hH0 := hH; clear hH; have hH := hH9; clear hH9
                try simp only [Act.put, List.setIfInBounds_toArray, List.set_cons_zero, List.set_cons_succ]
                refine wpAnyH_take_dst (i := 33) (v := .bool true) (d := some 117) rfl rfl (by kernel_rfl) (by kernel_rfl) (by kernel_rfl) (fun _ _ _ h => h) (Or.inl ⟨by rfl, ?_⟩) hH ?_
                · (intro w' hE'; (try dsimp only at hE'); have y0 := Ext.keep hE' HT.out.s0; have y1 := Ext.keep hE' HT.out.q0; have y2 := Ext.keep hE' HT.out.q1; have y3 := Ext.keep hE' HT.out.q2; go_simp; try with_reducible rfl)
                try simp only [Act.put, List.setIfInBounds_toArray, List.set_cons_zero, List.set_cons_succ]
                refine wpAnyH_take_dst (i := 34) (v := .bool true) (d := some 2) rfl rfl (by kernel_rfl) (by kernel_rfl) (by kernel_rfl) (fun _ _ _ h => h) (Or.inl ⟨by rfl, ?_⟩) hH ?_
                · (intro w' hE'; (try dsimp only at hE'); have y0 := Ext.keep hE' HT.out.s0; have y1 := Ext.keep hE' HT.out.q0; have y2 := Ext.keep hE' HT.out.q1; have y3 := Ext.keep hE' HT.out.q2; go_simp; try with_reducible rfl)
                try simp only [Act.put, List.setIfInBounds_toArray, List.set_cons_zero, List.set_cons_succ]
                refine wpAnyH_done (by kernel_rfl) ?_ _
                exact ⟨_, _, A24, c24, A26, c26, A29, c29, A31, c31, by rfl, hH⟩
            · rw [if_pos (by rfl)]
              go_wp2_with fail
              refine hK.out _ _ (hH.alloc _) (fun hH9 => ?_)
              clear hK; have hH0 := hH; clear hH; have hH := hH9; clear hH9
              try simp only [Act.put, List.setIfInBounds_toArray, List.set_cons_zero, List.set_cons_succ]
              refine wpAnyH_ready (rs := [22]) (by kernel_rfl) (by simp) ?_
              refine AllReadyH.cons rfl (fun K hK => ?_) AllReadyH.nil
              rw [if_pos (by rfl)]
              go_wp2_with fail
              refine hK.out _ _ (hH.alloc _) (fun hH9 => ?_)
              clear hK; have hH0 := hH; clear hH; have hH := hH9; clear hH9
              try simp only [Act.put, List.setIfInBounds_toArray, List.set_cons_zero, List.set_cons_succ]
              refine wpAnyH_ready (rs := [24]) (by kernel_rfl) (by simp) ?_
              refine AllReadyH.cons rfl (fun K hK => ?_) AllReadyH.nil
              rw [if_pos (by rfl)]
              have hH24 := hH; refine wp_append_fresh (.tmp 106) (.tmp 107) 27 rfl i0 Try.underlying27 hii hiz his hib rfl rfl (RI.ext HRA.out hH) (by omega) (fun A24 c24 w24 hO24 hE24 => ?_)
              refine hK.out _ _ (Ext.trans hH hE24) (fun hH9 => ?_)
              clear hK; have hH0 := hH; clear hH; have hH := hH9; clear hH9
              try simp only [Act.put, List.setIfInBounds_toArray, List.set_cons_zero, List.set_cons_succ]
              refine wpAnyH_ready (rs := [26]) (by kernel_rfl) (by simp) ?_
              refine AllReadyH.cons rfl (fun K hK => ?_) AllReadyH.nil
              rw [if_pos (by rfl)]
              have hs26 := hH24.size; have hO24b := OwI.lower (B' := w11.heap.size) hO24 hs26; have hc26 := hO24b.cap; refine wp_append_ints (.tmp 108) (.tmp 109) 27 rfl i0 Try.underlying27 hii hiz his hib (D := w11.heap.size) rfl hO24b rfl (RI.ext HT.out.ta hH) (by omega) hH.size hc26.1 (fun A26 c26 w26 hO26 hg26 hat26 => ?_); have hob26 := OwI.ob2 hO24b
              refine hK.out _ _ (Ext.grown hH hg26 (fun b hb => (hob26 b hb).1)) (fun hH9 => ?_)
              clear hK; have hH0 := hH; clear hH; have hH := hH9; clear hH9
              try simp only [Act.put, List.setIfInBounds_toArray, List.set_cons_zero, List.set_cons_succ]
              refine wpAnyH_ready (rs := [29]) (by kernel_rfl) (by simp) ?_
              refine AllReadyH.cons rfl (fun K hK => ?_) AllReadyH.nil
              rw [if_pos (by rfl)]
              have hH29 := hH; have hO26b := hO26.ri; have hc26 := hO26.cap; refine wp_append_fresh (.tmp 111) (.tmp 112) 27 rfl i0 Try.underlying27 hii hiz his hib rfl rfl (RI.ext HRA.out hH) (by omega) (fun A29 c29 w29 hO29 hE29 => ?_)
              refine hK.out _ _ (Ext.trans hH hE29) (fun hH9 => ?_)
              clear hK; have hH0 := hH; clear hH; have hH := hH9; clear hH9
              try simp only [Act.put, List.setIfInBounds_toArray, List.set_cons_zero, List.set_cons_succ]
              refine wpAnyH_ready (rs := [31]) (by kernel_rfl) (by simp) ?_
              refine AllReadyH.cons rfl (fun K hK => ?_) AllReadyH.nil
              rw [if_pos (by rfl)]
              have hc29 := hO29.cap; have hob29 := OwI.ob2 hO29; refine wp_append_ints (.tmp 113) (.tmp 114) 27 rfl i0 Try.underlying27 hii hiz his hib rfl hO29 rfl (RI.ext HT.out.tb hH) (by omega) hE29.size hc29.1 (fun A31 c31 w31 hO31 hg31 hat31 => ?_); have hE31 := Ext.grown hE29 hg31 (fun b hb => (hob29 b hb).1)
              refine hK.out _ _ (Ext.trans hH29 hE31) (fun hH9 => ?_)
              clear hK; have hH0 := hH; clear hH; have hH := hH9; clear hH9
              try simp only [Act.put, List.setIfInBounds_toArray, List.set_cons_zero, List.set_cons_succ]
              refine wpAnyH_ready (rs := [32]) (by kernel_rfl) (by simp) ?_
              refine AllReadyH.cons rfl (fun K hK => ?_) AllReadyH.nil
              rw [if_pos (by rfl)]
              go_wp2_with fail
              (with_reducible refine (c_kboLessB HCL.out (RdSig.mk (HT.out.ext hH).sg) (RdWt.mk (HT.out.ext hH).sy (HT.out.ext hH).rk) (RdIc.mk hc26 (by rw [HCA.out]; exact RI.ext hO26b hE31)) (RdIc.mk hO31.cap (by rw [HCB.out]; exact hO31.ri))).mono ?_)
              rintro e w9 ⟨rfl, hE9⟩
              refine hK.out _ _ (Ext.trans hH hE9) (fun hH9 => ?_)
              clear hK; have hH0 := hH; clear hH; have hH := hH9; clear hH9
              try simp only [Act.put, List.setIfInBounds_toArray, List.set_cons_zero, List.set_cons_succ]
              refine wpAnyH_take_dst (i := 33) (v := .bool true) (d := some 117) rfl rfl (by kernel_rfl) (by kernel_rfl) (by kernel_rfl) (fun _ _ _ h => h) (Or.inl ⟨by rfl, ?_⟩) hH ?_
              · (intro w' hE'; (try dsimp only at hE'); have y0 := Ext.keep hE' HT.out.s0; have y1 := Ext.keep hE' HT.out.q0; have y2 := Ext.keep hE' HT.out.q1; have y3 := Ext.keep hE' HT.out.q2; go_simp; try with_reducible rfl)
              try simp only [Act.put, List.setIfInBounds_toArray, List.set_cons_zero, List.set_cons_succ]
              refine wpAnyH_take_dst (i := 34) (v := .bool true) (d := some 2) rfl rfl (by kernel_rfl) (by kernel_rfl) (by kernel_rfl) (fun _ _ _ h => h) (Or.inl ⟨by rfl, ?_⟩) hH ?_
              · (intro w' hE'; (try dsimp only at hE'); have y0 := Ext.keep hE' HT.out.s0; have y1 := Ext.keep hE' HT.out.q0; have y2 := Ext.keep hE' HT.out.q1; have y3 := Ext.keep hE' HT.out.q2; go_simp; try with_reducible rfl)
              try simp only [Act.put, List.setIfInBounds_toArray, List.set_cons_zero, List.set_cons_succ]
              refine wpAnyH_done (by kernel_rfl) ?_ _
              exact ⟨_, _, A24, c24, A26, c26, A29, c29, A31, c31, by rfl, hH⟩
          obtain ⟨qa, qb, A24, c24, A26, c26, A29, c29, A31, c31, ha, hE12⟩ := hR
          simp only [Act.put, List.setIfInBounds_toArray, List.set_cons_zero, List.set_cons_succ] at ha
          subst ha
          go_wp2_with fail
          go_ret
          exact ⟨rfl, Ext.trans hE011 hE12⟩

set_option maxRecDepth 100000 in
theorem lifted (os : Os) (started : os.Started) (H : Type) (enc : TypeId × Value → H) :
    ReturnsInHanded {} Try.checked os 4 .any (Rows.fnKboStableSpec.pre6 enc Try.prog Try.f4 Rows.fnKboStableRow.domain false) (Rows.fnKboStableSpec.post enc Try.prog Try.f4 false true false false) := by
  refine returnsInHanded_of_change (C := Try.checked) own started (by kernel_rfl) Try.func4
    (ChangeSpec.witness6 (enc := enc) (C := Try.checked) false ⟨#[], #[.slice none 0 0], []⟩ 8 (by kernel_rfl) (by kernel_rfl) (by kernel_rfl) (by kernel_rfl)) ?_
  intro W base args ds gs before hval0 hW hcnd _
  have hval : ∀ (j : Nat) t v, Try.f4.params[j]? = some t → args[j]? = some v → Value.okWide Try.prog W .any base t v := hval0
  have hW' := hW
  obtain ⟨p, q, hA0, hV, rfl, hfz, hnd⟩ := hW
  have hA : DataW.TrodAll enc Try.prog W 0 (fun _ => true) true Try.f4.params.toList args.toList ds p := hA0
  rw [Try.params4] at hA hval
  obtain ⟨v0, vs0, d0, ds0, p0, q0, hargs, rfl, rfl, h0, r0⟩ := trodAll_cons hA
  obtain ⟨rfl, rfl, rfl⟩ := trodAll_nil r0
  obtain rfl : args = #[v0] := by cases args; simp_all
  obtain ⟨rfl, rfl⟩ := trodVars_none hV
  have k0 := h0
  have lt0 : ∀ x ∈ p0, x.block < W.heap.size := by obtain ⟨m, hm⟩ := k0; exact DataW.trod_lt m _ _ _ hm
  obtain ⟨x0, w0⟩ := raw_By (hval 0 22 v0 rfl rfl) h0
  clear hA0 hval0
  refine (walk w0).mono fun e W' ⟨he, bel⟩ => ?_
  subst he
  exact ⟨_, rfl, _, _, _, [], _, [], hW', trodAll_mk1 (shut_bool Try.underlying4 _), (trodAll_cons_mk (Below.trod laidOut (by kernel_rfl) (of_decide_eq_true (by kernel_rfl)) k0 bel lt0) trodAll_mk0), rfl, bel.frame _, fun h => by cases h⟩

theorem over : Rows.fnKboStableRow.holds Try.pinned (OpenSpec.ofChange Rows.fnKboStableSpec) :=
  OpenClaim.holds_of_wide 4 Try.f4 rfl rfl rfl rfl rfl rfl rfl ⟨rfl, rfl, rfl, rfl, rfl⟩ rfl rfl rfl rfl rfl (by kernel_rfl) Try.func4 (by kernel_rfl)
    (of_decide_eq_true (by kernel_rfl)) (by unfold Func.isWrapper; first | (rw [if_pos (by decide +kernel)]; kernel_rfl) | (rw [if_neg (by decide +kernel)]; exact ⟨rfl, rfl⟩))
    (fun os started H enc _ => lifted os started H enc)

theorem proved : Rows.FnKboStableSaid := over

end Go.Proofs.Ytleahogikppepaa.FnKboStable
