/- Proved: for every input the law FnHeadForms returns true, does not panic, and its argument reads afterwards as it read before. Conditions: none. -/
import Derived.Test.YtljbjabgdalabaaHeld
import Derived.Test.YtljbjabgdalabaaOpenBy
import Derived.Test.YtljbjabgdalabaaHfA
import Derived.Test.YtljbjabgdalabaaHfC
import Derived.Test.YtljbjabgdalabaaHfB
import Derived.Test.YtljbjabgdalabaaDicSy
-- rd: RdPs RdPc RdSyK
namespace Go.Proofs.Ytljbjabgdalabaa.FnHeadForms
open Go.ChangeShapes Go.WideShapes Go.ChangeAt Go.RowKit
set_option linter.unusedSimpArgs false
set_option linter.unusedVariables false
set_option linter.constructorNameAsVariable false

theorem one_of {w0 W : World} (h : Ext w0 W) : ∀ s, s = W.heap.size → RI (W.alloc (.cells #[.int .i64 1] 2)) (some ⟨s, 0, none⟩) 1 [1] := fun s e => by subst e; exact (OwI.fresh (w := W) [1] (by simp)).ri
theorem polys_infoH : (Try.prog.info? 38).map (fun i => (i.zero, i.size, i.bytes)) = some (some (.agg #[.int .i64 0, .slice none 0 0]), 2, 32) := by kernel_rfl
theorem less_mostH {o o' : Option Pl} (h : cmpLess o o' = true) : cmpMost o o' = true := by
  cases o with
  | none => cases h
  | some a =>
    cases o' with
    | none => cases h
    | some b =>
      simp only [cmpLess, cmpMost, Bool.and_eq_true, decide_eq_true_eq] at h ⊢
      exact ⟨h.1, by omega⟩
theorem less_some {o o' : Option Pl} (h : cmpLess o o' = true) : o.isSome = true ∧ o'.isSome = true ∧ (rp o).c < (rp o').c := by
  cases o with
  | none => cases h
  | some a =>
    cases o' with
    | none => cases h
    | some b =>
      simp only [cmpLess, Bool.and_eq_true, decide_eq_true_eq] at h
      exact ⟨rfl, rfl, h.2⟩
/-- The law on numbers. -/
structure Law (pl mk : List Pl) (a : Tm) (F g m1 : Pl) (m : Int) : Prop where
  mo : markedOk arD (pl ++ mk) = true
  mp : markedOk arD pl = false
  hf : headO arD (pl ++ mk) (1 :: a.flat) = some F
  gf : formO arD pl a.flat = some g
  me : mk[1]? = some m1
  mc : m1.cf = [m]
  mb : 0 ≤ m ∧ m ≤ 1
  cb : 0 ≤ m1.c ∧ m1.c ≤ 2
  gb : 0 ≤ g.c ∧ g.c ≤ 2187
  fc : F.c = m1.c + m * g.c
  fl : F.cf.length = g.cf.length
theorem law {pl mk : List Pl} (h1 : Ps3 0 pl) (h2 : Ps3 0 mk) {a : Tm} (oa : a.Ok arD) (la : a.flat.length ≤ 7) (ga : ∀ z ∈ a.flat, -2 ≤ z) : ∃ (F g m1 : Pl) (m : Int), Law pl mk a F g m1 m := by
  have hS := ps3_sm h1 (by omega)
  have hP := ps3_ok h1 (by omega)
  have hP2 := ps3_ok h2 (by omega)
  have h3 : pl.length = 3 := hS.1
  have ta : TermP arD a.flat := termD oa (by omega) (fun z hz => by have := ga z hz; omega)
  obtain ⟨_, g, eg, ug⟩ := fu_self hS oa (by omega)
  rw [Nat.zero_add] at ug
  have ug7 := ug.mono (p3_mono la)
  have b7 : p3 7 = 2187 := by decide
  have hmk : markedOk arD (pl ++ mk) = true := by
    have e1 : (pl ++ mk).take (List.length arD) = pl := by rw [show List.length arD = pl.length from h3.symm]; exact List.take_left
    have e2 : (pl ++ mk).drop (List.length arD) = mk := by rw [show List.length arD = pl.length from h3.symm]; exact List.drop_left
    unfold markedOk
    rw [e1, e2, polysOk_iff.2 hP, polysOk_iff.2 hP2]
    have h4 : mk.length = 3 := (ps3_sm h2 (by omega)).1
    simp [h3, h4]
  obtain ⟨c0, a0, a1, c1, b0, c2, rfl, q0, q1, q2, q3, q4, q5⟩ := h2
  have e1 : (Tm.node 1 [a]).flat = 1 :: a.flat := by rw [flat_node, flatL_cons, flatL_nil, List.append_nil]
  have o1 : (Tm.node 1 [a]).Ok arD := Ok_node.2 ⟨rfl, OkL_cons.2 ⟨oa, by simp [OkL]⟩⟩
  have q : TermP arD (Tm.node 1 [a]).flat := termD o1 (by rw [e1]; simp; omega) (fun z hz => by
    rw [e1] at hz
    rcases List.mem_cons.1 hz with rfl | hz
    · omega
    · have := ga z hz; omega)
  have eg2 : form (pl ++ ([⟨c0, [a0, a1]⟩, ⟨c1, [b0]⟩, ⟨c2, []⟩] : List Pl)) a = some g := by
    rw [← form_take (ar := arD) a oa]
    have e3 : (pl ++ ([⟨c0, [a0, a1]⟩, ⟨c1, [b0]⟩, ⟨c2, []⟩] : List Pl)).take (List.length arD) = pl := by rw [show List.length arD = pl.length from h3.symm]; exact List.take_left
    rw [e3, eg]
  have hget : (pl ++ ([⟨c0, [a0, a1]⟩, ⟨c1, [b0]⟩, ⟨c2, []⟩] : List Pl))[(1 : Int).toNat + List.length arD]? = some ⟨c1, [b0]⟩ := by
    rw [List.getElem?_append_right (by rw [h3]; decide), h3]; rfl
  have hu : Upto 10000 (addP ⟨c1, []⟩ g b0) := (addP_upto2 (A := 2) (B := 2187) ⟨q1, fun x hx => by cases hx⟩ (by omega) (b7 ▸ ug7) (by omega) (by omega)).mono (by omega)
  have happ : appP ⟨c1, [b0]⟩ [g] = some (addP ⟨c1, []⟩ g b0) := by
    unfold appP
    exact if_neg (not_big hu (by omega))
  refine ⟨addP ⟨c1, []⟩ g b0, g, ⟨c1, [b0]⟩, b0, ?_⟩
  refine { mo := hmk, mp := ?_, hf := ?_, gf := ?_, me := rfl, mc := rfl, mb := by omega, cb := q1, gb := by have := ug7.1; omega, fc := rfl, fl := ?_ }
  · unfold markedOk
    rw [h3]; rfl
  · rw [← e1, headO_t (by rw [hmk, termOk_iff.2 q]; rfl), tmOf_flat o1]
    rw [formM_some (by omega) (by rw [formL_cons, formL_nil, eg2]; rfl) hget]
    exact happ
  · rw [formO_t (by rw [polysOk_iff.2 hP, termOk_iff.2 ta]; rfl), tmOf_flat oa, eg]
  · show (addL [] g.cf b0).length = g.cf.length
    rw [addL_len]; simp
theorem c_iHeadB {v0 v1 v2 : Value} {ar t : List Int} {ps : List Pl} {o : Option Pl} {x : Int} {L : Nat} {b : Bool} {w : World} (ho : headO ar ps t = o) (hx : (rp o).c = x) (hL : (rp o).cf.length = L) (hb : o.isSome = b) (h0 : RdSig w v0 ar) (h1 : RdPc w v1 ps) (h2 : RdI w v2 t) :
    Calls Try.prog 17 #[v0, v1, v2] w fun e w' => ∃ A c, e = .returned (.tuple #[.agg #[.int .i64 x, .slice A L c], .bool b]) ∧ Ext w w' :=
  (c_iHeadForm h0 h1 h2).mono fun e w' h => by
    subst ho
    obtain ⟨A, n, c, he, hO, hE⟩ := h
    have hn := hO.len
    subst hn
    subst hx; subst hL; subst hb
    exact ⟨A, c, he, hE⟩
theorem c_sHeadB {v0 v1 v2 : Value} {ar t : List Int} {ps : List Pl} {o : Option Pl} {x : Int} {L : Nat} {b : Bool} {w : World} (ho : headO ar ps t = o) (hx : (rp o).c = x) (hL : (rp o).cf.length = L) (hb : o.isSome = b) (h0 : RdSig w v0 ar) (h1 : RdPc w v1 ps) (h2 : RdIc w v2 t) :
    Calls Try.prog 23 #[v0, v1, v2] w fun e w' => ∃ A c, e = .returned (.tuple #[.agg #[.int .i64 x, .slice A L c], .bool b]) ∧ Ext w w' :=
  (c_sHeadForm h0 h1 h2).mono fun e w' h => by
    subst ho
    obtain ⟨A, n, c, he, hO, hE⟩ := h
    have hn := hO.len
    subst hn
    subst hx; subst hL; subst hb
    exact ⟨A, c, he, hE⟩
theorem c_iHeadF {v0 v1 v2 : Value} {ar t : List Int} {ps : List Pl} {f : Pl} {x : Int} {L : Nat} {w : World} (ho : headO ar ps t = some f) (hx : f.c = x) (hL : f.cf.length = L) (h0 : RdSig w v0 ar) (h1 : RdPc w v1 ps) (h2 : RdI w v2 t) :
    Calls Try.prog 17 #[v0, v1, v2] w fun e w' => ∃ A c, e = .returned (.tuple #[.agg #[.int .i64 x, .slice A L c], .bool true]) ∧ Ext w w' := c_iHeadB ho hx hL rfl h0 h1 h2
theorem c_sFormB {v0 v1 v2 : Value} {ar t : List Int} {ps : List Pl} {g : Pl} {w : World} (ho : formO ar ps t = some g) (h0 : RdSig w v0 ar) (h1 : RdPs w v1 ps) (h2 : RdIc w v2 t) :
    Calls Try.prog 18 #[v0, v1, v2] w fun e w' => ∃ A c, e = .returned (.tuple #[.agg #[.int .i64 g.c, .slice A g.cf.length c], .bool true]) ∧ RI w' A g.cf.length g.cf ∧ Ext w w' :=
  (c_sFormOf h0 h1 h2).mono fun e w' h => by
    obtain ⟨A, n, c, he, hO, hx⟩ := h
    rw [ho] at he hO
    have hn := hO.len
    subst hn
    exact ⟨A, c, he, hO.ri, hx⟩
theorem c_markB {v0 v1 : Value} {ar : List Int} {ps : List Pl} {b : Bool} {w : World} (hb : markedOk ar ps = b) (h0 : RdSig w v0 ar) (h1 : RdPc w v1 ps) :
    Calls Try.prog 19 #[v0, v1] w fun e w' => e = .returned (.bool b) ∧ Ext w w' := by subst hb; exact c_iMarkedOk h0 h1
theorem c_pairLessB {v0 v1 v2 : Value} {ar : List Int} {ps : List Pl} {p : DepP} {b : Bool} {w : World} (hb : cmpLess (headO ar ps p.r) (headO ar ps p.l) = b) (h0 : RdSig w v0 ar) (h1 : RdPc w v1 ps) (h2 : RdDp w v2 p) :
    Calls Try.prog 21 #[v0, v1, v2] w fun e w' => e = .returned (.bool b) ∧ Ext w w' := by subst hb; exact c_iPairLess h0 h1 h2
theorem c_pairMostB {v0 v1 v2 : Value} {ar : List Int} {ps : List Pl} {p : DepP} {b : Bool} {w : World} (hb : cmpMost (headO ar ps p.r) (headO ar ps p.l) = b) (h0 : RdSig w v0 ar) (h1 : RdPc w v1 ps) (h2 : RdDp w v2 p) :
    Calls Try.prog 22 #[v0, v1, v2] w fun e w' => e = .returned (.bool b) ∧ Ext w w' := by subst hb; exact c_iPairAtMost h0 h1 h2
theorem c_pairsB {v0 : Value} {s : Sy} {w : World} (h0 : RdSyC w v0 s) :
    Calls Try.prog 20 #[v0] w fun e w' => ∃ A n c b, e = .returned (.tuple #[.slice A n c, .bool b]) ∧ RE w' A n (prV s) ∧ Ext w w' :=
  (c_sPairsOf rfl rfl h0).mono fun e w' h => by
    obtain ⟨A, n, c, he, hO, hx⟩ := h
    exact ⟨A, n, c, _, he, hO.re, hx⟩
/-- A box of two. -/
structure Bx (w : World) (q : Nat) (u v : Value) : Prop where
  c0 : w.cell? ⟨q, 0, none⟩ = some u
  c1 : w.cell? ⟨q, 1, none⟩ = some v
  fr : ∀ j, w.frozen? ⟨q, j, none⟩ = false
theorem Bx.lt {w : World} {q : Nat} {u v : Value} (h : Bx w q u v) : q < w.heap.size := World.block_lt_of_cell? w _ h.c0
theorem Bx.ext {w w' : World} {q : Nat} {u v : Value} (h : Bx w q u v) (k : Ext w w') : Bx w' q u v := ⟨Ext.keep k h.c0, Ext.keep k h.c1, fun j => (Below.frozen (p := ⟨q, j, none⟩) k h.lt).trans (h.fr j)⟩
theorem Bx.new (W : World) (u v : Value) : ∀ q, q = W.heap.size → Bx (W.alloc (.cells #[u, v] 38)) q u v := fun q e => by
  subst e; exact ⟨by simp [go_sem], by simp [go_sem], by intro j; simp [go_sem]⟩
theorem Bx.put {w : World} {q : Nat} {u v : Value} (h : Bx w q u v) (u' v' : Value) : Bx ((w.setCell ⟨q, 0, none⟩ u').setCell ⟨q, 1, none⟩ v') q u' v' := by
  refine ⟨?_, ?_, fun j => by rw [World.frozen?_setCell, World.frozen?_setCell]; exact h.fr j⟩
  · rw [World.cell?_setCell_other _ _ _ _ (by simp)]; exact World.cell?_setCell_same _ _ _ h.c0
  · exact World.cell?_setCell_same _ _ _ (by rw [World.cell?_setCell_other _ _ _ _ (by simp)]; exact h.c1)
theorem bx_of {w0 W : World} (h : Ext w0 W) : ∀ q, q = W.heap.size → Bx (W.alloc (.cells #[.int .i64 0, .slice none 0 0] 38)) q (.int .i64 0) (.slice none 0 0) ∧ w0.heap.size ≤ q := fun q e => ⟨Bx.new W _ _ q e, by have := h.size; omega⟩
set_option maxRecDepth 100000 in
set_option maxHeartbeats 16000000 in
theorem walk {v0 : Value} {x0 : Nat} {w : World} (h0 : RawBy w v0 x0) :
    Calls Try.prog 4 #[v0] w fun e w' => e = .returned (.bool true) ∧ Ext w w' := by
  have H0 := Lib.hid h0
  obtain ⟨bb, hbb⟩ : ∃ bb, decide (4096 < x0) = bb := ⟨_, rfl⟩
  have HBB := Lib.hid hbb
  obtain ⟨i0, hii, hiz, his, hib⟩ := info_parts int64_info
  obtain ⟨i1, hji, hjz, hjs, hjb⟩ := info_parts polys_infoH
  clear h0 hbb
  go_enter Try.func4, Try.ntmps4
  go_wp2_with fail
  (with_reducible refine (c_big HBB.out H0.out).mono ?_)
  rintro e w1 ⟨rfl, hE1⟩
  cases bb with
  | true =>
    go_wp2
    go_ret
    exact ⟨rfl, hE1⟩
  | false =>
    have hx : x0 ≤ 4096 := by have := HBB.out; simpa using this
    have H1 := Lib.hid (H0.out.ext hE1)
    go_wp2_with fail
    (with_reducible refine (c_roll H1.out hx).mono ?_)
    rintro e w2 ⟨g, rfl, hD2, hg2, hE2⟩
    have hE02 : Ext w w2 := Ext.trans hE1 hE2
    have hgw : w.heap.size ≤ g := by have := hE1.size; omega
    have hgl := hD2.lt
    go_wp2_with fail
    (with_reducible refine (c_w9System hD2).mono ?_)
    rintro e w3 ⟨AS, cS, B, m, d, rs, rfl, hS3, hR3, hl3, hG3, hD3, hO3⟩
    have hs3 := hO3.size
    have HY4 := Lib.hid (SysAt.mk' (c := cS) (d := d) (v := .bool true) hS3 hR3 hs3)
    have HSY := Lib.hid (show SysP ⟨arD, rs⟩ from good_sys hl3 hG3)
    have hE03 : Ext w w3 := hO3.ext hE02 hgw
    obtain ⟨w4, hw4⟩ : ∃ w4, w4 = w3.alloc (.cells #[.slice AS 3 cS, .slice B m d] 49) := ⟨_, rfl⟩
    rw [← hw4] at HY4
    have hE34 : Ext w3 w4 := by rw [hw4]; exact extX
    have HD4 := Lib.hid (hD3.ext hE34)
    have hE04 := Ext.trans hE03 hE34
    clear hS3 hR3 hD3 hO3 hG3
    go_wp2_with fail
    rw [← hw4]
    clear hw4
    obtain ⟨p, hp⟩ : ∃ p, p = w3.heap.size := ⟨_, rfl⟩
    rw [← hp] at HY4 ⊢
    have hpg : p ≠ g := by omega
    clear hp
    (with_reducible refine (c_w9Polys HD4.out (by omega)).mono ?_)
    rintro e w5 ⟨AP, pl, rfl, hP5, hpl, hD5, hO5, _⟩
    have HPL := Lib.hid hpl
    have HP5 := Lib.hid hP5
    have HD5 := Lib.hid hD5
    have HY5 := Lib.hid (HY4.out.only hO5 hgl)
    have hE05 : Ext w w5 := hO5.ext hE04 hgw
    clear HY4 HD4 hD5 hO5 hpl hP5
    go_wp2_with fail
    (with_reducible refine (c_w9Polys HD5.out (by omega)).mono ?_)
    rintro e w6 ⟨AM, mk, rfl, hM6, hmk, hD6, hO6, _⟩
    have HMK := Lib.hid hmk
    have HM6 := Lib.hid hM6
    have HP6 := Lib.hid (HP5.out.only hO6)
    have HD6 := Lib.hid hD6
    have HY6 := Lib.hid (HY5.out.only hO6 hgl)
    have hE06 : Ext w w6 := hO6.ext hE05 hgw
    have hg6 := hD6.lt
    obtain ⟨pb, po, us, eP, hus, huc⟩ := HP6.out.fl
    obtain ⟨mb, mo, vs, eM, hvs, hvc⟩ := HM6.out.fl
    subst eP
    subst eM
    have hul : us.length = 3 * 2 := by rw [hus.1, HP6.out.1.1]
    have hvl : vs.length = 3 * 2 := by rw [hvs.1, HM6.out.1.1]
    have HUS := Lib.hid hus
    have HVS := Lib.hid hvs
    have HUC := Lib.hid huc
    have HVC := Lib.hid hvc
    have hE67 : Ext w6 (w6.alloc (.cells #[] 38)) := (Ext.refl w6).alloc _
    have HOW := Lib.hid (show (w6.alloc (.cells #[] 38)).ownsRow w6.heap.size 38 2 (.slice (some ⟨w6.heap.size, 0, none⟩) 0 0) 0 [] from World.ownsRow_made w6 #[] 0 (Nat.le_refl _) (by decide) rfl)
    have hs67 := hE67.size
    clear HY5 HD5 HP5 hmk hM6 hD6 hO6 hus hvs huc hvc
    go_wp2_with (at_builtin; go_loud (refine wpList_append_polys rfl (.tmp 30) (.tmp 31) 31 rfl i1 Try.underlying31 hji hjz hjs hjb (D := w6.heap.size) rfl HOW.out rfl hul (fun j u hu => Ext.keep hE67 (HUC.out j u hu)) HUS.out.one (by omega) (by omega) hs67 ?_))
    intro A8 c8 w8 hO8 hg8
    try rw [Nat.zero_add] at hO8
    try rw [List.nil_append] at hO8
    have hE68 : Ext w6 w8 := Ext.grown hE67 hg8 (fun b hb => by cases hb; exact Nat.le_refl _)
    have hs68 := hE68.size
    have hob8 : ∀ b, (Value.slice A8 3 c8).ownBlock = some b → w6.heap.size ≤ b := fun b hb => (ownsRow_at hO8 hb).1
    clear HOW hg8
    try rw [Nat.zero_add]
    go_wp2_with (at_builtin; go_loud (refine wpList_append_polys rfl (.tmp 32) (.tmp 33) 31 rfl i1 Try.underlying31 hji hjz hjs hjb (D := w6.heap.size) rfl hO8 rfl hvl (fun j u hu => Ext.keep hE68 (HVC.out j u hu)) HVS.out.one (by omega) (by omega) hs68 ?_))
    intro AQ cQ w9 hO9 hg9
    have hE69 : Ext w6 w9 := Ext.grown hE68 hg9 hob8
    have hcapQ := ownsRow_cap hO9
    have HQ9 := Lib.hid (show RPg w9 g AQ 6 (pl ++ mk) from RPg.of hO9 ((HUS.out.ext hE69).append (HVS.out.ext hE69)) (by rw [List.length_append, HP6.out.1.1, HM6.out.1.1]) (by omega) (by omega) hg6)
    have HP9 := Lib.hid (HP6.out.ext hE69)
    have HM9 := Lib.hid (HM6.out.ext hE69)
    have HY9 := Lib.hid (HY6.out.ext hE69)
    have HD9 := Lib.hid (HD6.out.ext hE69)
    have hE09 : Ext w w9 := Ext.trans hE06 hE69
    have hg9l := HD9.out.lt
    clear hO8 hO9 hg9 hob8 HUS HVS HUC HVC HP6 HM6 HY6 HD6 hul hvl
    go_wp2_with fail
    (with_reducible refine (c_w9Term (g := g) (vars := 2) (by omega) (by omega) 2 (by omega) 3 (by omega) HD9.out).mono ?_)
    rintro e w10 ⟨TA, tn, tc, a, rfl, hOa, oka, ga, hna, hD10, hO10⟩
    have hcapT := hOa.cap
    have htn7 : tn ≤ 7 := hna
    have HLA := Lib.hid hOa.len
    have HTA := Lib.hid (RI.ext hOa.ri (Ext.refl w10))
    have HQ10 := Lib.hid (HQ9.out.only hO10).rp
    have HP10 := Lib.hid (HP9.out.only hO10).rp
    have HM10 := Lib.hid (HM9.out.only hO10).rp
    have HY10 := Lib.hid (HY9.out.only hO10 hgl)
    have HE10 := Lib.hid (hO10.ext hE09 hgw)
    obtain ⟨F, gg, m1, mm, hlaw⟩ := law HPL.out HMK.out (show a.Ok arD from oka) (by rw [hOa.len]; exact htn7) (fun z hz => by have := ga z hz; omega)
    have HL := Lib.hid hlaw
    have htn1 : 1 ≤ tn := by have := flat_pos a; have := hOa.len; omega
    clear hOa oka ga hna hD10 hO10 HQ9 HP9 HM9 HY9 HD9 hlaw HPL HMK
    go_wp2_with fail
    refine wp_only (R := fun (a0 : Act) (a8 : Act) (w9 : World) => ∃ (q : Nat) (r : Nat) (A5 : Option Addr) (c5 : Nat) (FA : Option Addr) (fc : Nat), a8 = ((((((((((((a0.put (some 38) (.pointer (some ⟨p, 0, none⟩))).put (some 39) (.agg #[.slice AS 3 cS])).put (some 40) (.slice AQ 6 cQ)).put (some 41) (.slice (some ⟨r, 0, none⟩) 1 1)).put (some 42) (.slice TA tn tc)).put (some 43) (.slice A5 (1 + tn) c5)).put (some 44) (.tuple #[.agg #[.int .i64 (m1.c + mm * gg.c), .slice FA gg.cf.length fc], .bool true])).put (some 37) (.tuple #[.agg #[.int .i64 (m1.c + mm * gg.c), .slice FA gg.cf.length fc], .bool true])).put (some 45) (.agg #[.int .i64 (m1.c + mm * gg.c), .slice FA gg.cf.length fc])).put (some 46) (.bool true)).put (some 9) (.pointer (some ⟨q, 0, none⟩))).put (some 10) (.bool true)) ∧ Bx w9 q (.int .i64 (m1.c + mm * gg.c)) (.slice FA gg.cf.length fc) ∧ Ext w10 w9) ?_ (fun a8 w11 hR => ?_)
    · refine wp_region_held_drew (S := (fun w' => Ext w10 w')) (by kernel_rfl) ((Ext.refl w10).drew) (fun hH => ?_)
      refine wpAnyH_take_dst (i := 0) (v := .pointer (some ⟨p, 0, none⟩)) (d := some 38) rfl rfl (by kernel_rfl) (by kernel_rfl) (by kernel_rfl) (fun _ _ _ h => h) (Or.inl ⟨by rfl, ?_⟩) hH ?_
      · (intro w' hE'; (try dsimp only at hE'); have y0 := Ext.keep hE' HY10.out.c0; go_simp; try with_reducible rfl)
      try simp only [Act.put, List.setIfInBounds_toArray, List.set_cons_zero, List.set_cons_succ]
      refine wpAnyH_take_dst (i := 1) (v := .agg #[.slice AS 3 cS]) (d := some 39) rfl rfl (by kernel_rfl) (by kernel_rfl) (by kernel_rfl) (fun _ _ _ h => h) (Or.inl ⟨by rfl, ?_⟩) hH ?_
      · (intro w' hE'; (try dsimp only at hE'); have y0 := Ext.keep hE' HY10.out.c0; go_simp; try with_reducible rfl)
      try simp only [Act.put, List.setIfInBounds_toArray, List.set_cons_zero, List.set_cons_succ]
      refine wpAnyH_take_dst (i := 2) (v := .slice AQ 6 cQ) (d := some 40) rfl rfl (by kernel_rfl) (by kernel_rfl) (by kernel_rfl) (fun _ _ _ h => h) (Or.inl ⟨by rfl, ?_⟩) hH ?_
      · (intro w' hE'; (try dsimp only at hE'); have y0 := Ext.keep hE' HY10.out.c0; go_simp; try with_reducible rfl)
      try simp only [Act.put, List.setIfInBounds_toArray, List.set_cons_zero, List.set_cons_succ]
      refine wpAnyH_take_dst (i := 4) (v := .slice TA tn tc) (d := some 42) rfl rfl (by kernel_rfl) (by kernel_rfl) (by kernel_rfl) (fun _ _ _ h => h) (Or.inl ⟨by rfl, ?_⟩) hH ?_
      · (intro w' hE'; (try dsimp only at hE'); have y0 := Ext.keep hE' HY10.out.c0; go_simp; try with_reducible rfl)
      try simp only [Act.put, List.setIfInBounds_toArray, List.set_cons_zero, List.set_cons_succ]
      refine wpAnyH_ready (rs := [3, 10]) (by kernel_rfl) (by simp) ?_
      refine AllReadyH.cons rfl (fun K hK => ?_) (AllReadyH.cons rfl (fun K hK => ?_) (AllReadyH.nil))
      · rw [if_pos (by rfl)]
        go_wp2_with fail; have hF3 := one_of hH
        refine hK.out _ _ (hH.alloc _) (fun hH9 => ?_)
        clear hK; have hH0 := hH; clear hH; have hH := hH9; clear hH9
        try simp only [Act.put, List.setIfInBounds_toArray, List.set_cons_zero, List.set_cons_succ]
        refine wpAnyH_ready (rs := [5, 10]) (by kernel_rfl) (by simp) ?_
        refine AllReadyH.cons rfl (fun K hK => ?_) (AllReadyH.cons rfl (fun K hK => ?_) (AllReadyH.nil))
        · rw [if_pos (by rfl)]
          refine wp_append_full (.tmp 41) (.tmp 42) 27 rfl i0 Try.underlying27 hii hiz his hib rfl (by first | exact hF3 _ (by go_size) | exact RI.ext (hF3 _ (by go_size)) ((Ext.refl _).alloc _)) rfl (RI.ext HTA.out hH) (by omega) (by omega) (fun A5 c5 w5q hO5 hE5 => ?_); have hR5 : RI w5q A5 (1 + tn) (1 :: a.flat) := hO5.ri
          refine hK.out _ _ (Ext.trans hH hE5) (fun hH9 => ?_)
          clear hK; have hH0 := hH; clear hH; have hH := hH9; clear hH9
          try simp only [Act.put, List.setIfInBounds_toArray, List.set_cons_zero, List.set_cons_succ]
          refine wpAnyH_ready (rs := [6, 10]) (by kernel_rfl) (by simp) ?_
          refine AllReadyH.cons rfl (fun K hK => ?_) (AllReadyH.cons rfl (fun K hK => ?_) (AllReadyH.nil))
          · rw [if_pos (by rfl)]
            go_wp2_with fail
            (with_reducible refine (c_iHeadF HL.out.hf HL.out.fc HL.out.fl (HY10.out.ext hH).sig (RdPc.mkc hcapQ.1 hcapQ.2 (RP.ext HQ10.out hH)) (RdI.mk (A := A5) (n := 1 + tn) (c := c5) (by first | exact hR5 | exact RI.ext hR5 ((Ext.refl _).alloc _)))).mono ?_)
            rintro e w9 ⟨FA, fc, rfl, hE6⟩
            refine hK.out _ _ (Ext.trans hH hE6) (fun hH9 => ?_)
            clear hK; have hH0 := hH; clear hH; have hH := hH9; clear hH9
            try simp only [Act.put, List.setIfInBounds_toArray, List.set_cons_zero, List.set_cons_succ]
            refine wpAnyH_take_dst (i := 7) (v := .tuple #[.agg #[.int .i64 (m1.c + mm * gg.c), .slice FA gg.cf.length fc], .bool true]) (d := some 37) rfl rfl (by kernel_rfl) (by kernel_rfl) (by kernel_rfl) (fun _ _ _ h => h) (Or.inl ⟨by rfl, ?_⟩) hH ?_
            · (intro w' hE'; (try dsimp only at hE'); have y0 := Ext.keep hE' HY10.out.c0; go_simp; try with_reducible rfl)
            try simp only [Act.put, List.setIfInBounds_toArray, List.set_cons_zero, List.set_cons_succ]
            refine wpAnyH_take_dst (i := 8) (v := .agg #[.int .i64 (m1.c + mm * gg.c), .slice FA gg.cf.length fc]) (d := some 45) rfl rfl (by kernel_rfl) (by kernel_rfl) (by kernel_rfl) (fun _ _ _ h => h) (Or.inl ⟨by rfl, ?_⟩) hH ?_
            · (intro w' hE'; (try dsimp only at hE'); have y0 := Ext.keep hE' HY10.out.c0; go_simp; try with_reducible rfl)
            try simp only [Act.put, List.setIfInBounds_toArray, List.set_cons_zero, List.set_cons_succ]
            refine wpAnyH_take_dst (i := 9) (v := .bool true) (d := some 46) rfl rfl (by kernel_rfl) (by kernel_rfl) (by kernel_rfl) (fun _ _ _ h => h) (Or.inl ⟨by rfl, ?_⟩) hH ?_
            · (intro w' hE'; (try dsimp only at hE'); have y0 := Ext.keep hE' HY10.out.c0; go_simp; try with_reducible rfl)
            try simp only [Act.put, List.setIfInBounds_toArray, List.set_cons_zero, List.set_cons_succ]
            refine wpAnyH_ready (rs := [10]) (by kernel_rfl) (by simp) ?_
            refine AllReadyH.cons rfl (fun K hK => ?_) AllReadyH.nil
            rw [if_pos (by rfl)]
            have hB := bx_of hH; go_wp2_with fail
            refine hK.out _ _ (hH.alloc _) (fun hH9 => ?_)
            clear hK; have hH0 := hH; clear hH; have hH := hH9; clear hH9
            try simp only [Act.put, List.setIfInBounds_toArray, List.set_cons_zero, List.set_cons_succ]
            refine wpAnyH_ready (rs := [11]) (by kernel_rfl) (by simp) ?_
            refine AllReadyH.cons rfl (fun K hK => ?_) AllReadyH.nil
            rw [if_pos (by rfl)]
            go_wp2_with fail
            refine hK.out _ _ (hH0.alloc _) (fun hH9 => ?_)
            clear hK; have hH0 := hH; clear hH; have hH := hH9; clear hH9
            try simp only [Act.put, List.setIfInBounds_toArray, List.set_cons_zero, List.set_cons_succ]
            refine wpAnyH_take_dst (i := 12) (v := .bool true) (d := some 10) rfl rfl (by kernel_rfl) (by kernel_rfl) (by kernel_rfl) (fun _ _ _ h => h) (Or.inl ⟨by rfl, ?_⟩) hH ?_
            · (intro w' hE'; (try dsimp only at hE'); have y0 := Ext.keep hE' HY10.out.c0; go_simp; try with_reducible rfl)
            try simp only [Act.put, List.setIfInBounds_toArray, List.set_cons_zero, List.set_cons_succ]
            refine wpAnyH_done (by kernel_rfl) ?_ _
            exact ⟨w9.heap.size, _, A5, c5, FA, fc, by rfl, Bx.new _ _ _ _ rfl, hH⟩
          · rw [if_pos (by rfl)]
            have hB := bx_of hH; go_wp2_with fail
            refine hK.out _ _ (hH.alloc _) (fun hH9 => ?_)
            clear hK; have hH0 := hH; clear hH; have hH := hH9; clear hH9
            try simp only [Act.put, List.setIfInBounds_toArray, List.set_cons_zero, List.set_cons_succ]
            refine wpAnyH_ready (rs := [6]) (by kernel_rfl) (by simp) ?_
            refine AllReadyH.cons rfl (fun K hK => ?_) AllReadyH.nil
            rw [if_pos (by rfl)]
            go_wp2_with fail
            (with_reducible refine (c_iHeadF HL.out.hf HL.out.fc HL.out.fl (HY10.out.ext hH).sig (RdPc.mkc hcapQ.1 hcapQ.2 (RP.ext HQ10.out hH)) (RdI.mk (A := A5) (n := 1 + tn) (c := c5) (by first | exact hR5 | exact RI.ext hR5 ((Ext.refl _).alloc _)))).mono ?_)
            rintro e w9 ⟨FA, fc, rfl, hE6⟩
            refine hK.out _ _ (Ext.trans hH hE6) (fun hH9 => ?_)
            clear hK; have hH0 := hH; clear hH; have hH := hH9; clear hH9
            try simp only [Act.put, List.setIfInBounds_toArray, List.set_cons_zero, List.set_cons_succ]
            refine wpAnyH_take_dst (i := 7) (v := .tuple #[.agg #[.int .i64 (m1.c + mm * gg.c), .slice FA gg.cf.length fc], .bool true]) (d := some 37) rfl rfl (by kernel_rfl) (by kernel_rfl) (by kernel_rfl) (fun _ _ _ h => h) (Or.inl ⟨by rfl, ?_⟩) hH ?_
            · (intro w' hE'; (try dsimp only at hE'); have y0 := Ext.keep hE' HY10.out.c0; go_simp; try with_reducible rfl)
            try simp only [Act.put, List.setIfInBounds_toArray, List.set_cons_zero, List.set_cons_succ]
            refine wpAnyH_take_dst (i := 8) (v := .agg #[.int .i64 (m1.c + mm * gg.c), .slice FA gg.cf.length fc]) (d := some 45) rfl rfl (by kernel_rfl) (by kernel_rfl) (by kernel_rfl) (fun _ _ _ h => h) (Or.inl ⟨by rfl, ?_⟩) hH ?_
            · (intro w' hE'; (try dsimp only at hE'); have y0 := Ext.keep hE' HY10.out.c0; go_simp; try with_reducible rfl)
            try simp only [Act.put, List.setIfInBounds_toArray, List.set_cons_zero, List.set_cons_succ]
            refine wpAnyH_take_dst (i := 9) (v := .bool true) (d := some 46) rfl rfl (by kernel_rfl) (by kernel_rfl) (by kernel_rfl) (fun _ _ _ h => h) (Or.inl ⟨by rfl, ?_⟩) hH ?_
            · (intro w' hE'; (try dsimp only at hE'); have y0 := Ext.keep hE' HY10.out.c0; go_simp; try with_reducible rfl)
            try simp only [Act.put, List.setIfInBounds_toArray, List.set_cons_zero, List.set_cons_succ]
            refine wpAnyH_ready (rs := [11]) (by kernel_rfl) (by simp) ?_
            refine AllReadyH.cons rfl (fun K hK => ?_) AllReadyH.nil
            rw [if_pos (by rfl)]
            obtain ⟨hb0, hge⟩ := hB w5q.heap.size (by go_size); have hb := Bx.ext hb0 hE6; have k0 := hb.c0; have k1 := hb.c1; have kf := hb.fr; go_wp2_with fail
            refine hK.out _ _ ((hH.set hge _).set hge _) (fun hH9 => ?_)
            clear hK; have hH0 := hH; clear hH; have hH := hH9; clear hH9
            try simp only [Act.put, List.setIfInBounds_toArray, List.set_cons_zero, List.set_cons_succ]
            refine wpAnyH_take_dst (i := 12) (v := .bool true) (d := some 10) rfl rfl (by kernel_rfl) (by kernel_rfl) (by kernel_rfl) (fun _ _ _ h => h) (Or.inl ⟨by rfl, ?_⟩) hH ?_
            · (intro w' hE'; (try dsimp only at hE'); have y0 := Ext.keep hE' HY10.out.c0; go_simp; try with_reducible rfl)
            try simp only [Act.put, List.setIfInBounds_toArray, List.set_cons_zero, List.set_cons_succ]
            refine wpAnyH_done (by kernel_rfl) ?_ _
            exact ⟨_, _, A5, c5, FA, fc, by rfl, Bx.put hb _ _, hH⟩
        · rw [if_pos (by rfl)]
          have hB := bx_of hH; go_wp2_with fail
          refine hK.out _ _ (hH.alloc _) (fun hH9 => ?_)
          clear hK; have hH0 := hH; clear hH; have hH := hH9; clear hH9
          try simp only [Act.put, List.setIfInBounds_toArray, List.set_cons_zero, List.set_cons_succ]
          refine wpAnyH_ready (rs := [5]) (by kernel_rfl) (by simp) ?_
          refine AllReadyH.cons rfl (fun K hK => ?_) AllReadyH.nil
          rw [if_pos (by rfl)]
          refine wp_append_full (.tmp 41) (.tmp 42) 27 rfl i0 Try.underlying27 hii hiz his hib rfl (by first | exact hF3 _ (by go_size) | exact RI.ext (hF3 _ (by go_size)) ((Ext.refl _).alloc _)) rfl (RI.ext HTA.out hH) (by omega) (by omega) (fun A5 c5 w5q hO5 hE5 => ?_); have hR5 : RI w5q A5 (1 + tn) (1 :: a.flat) := hO5.ri
          refine hK.out _ _ (Ext.trans hH hE5) (fun hH9 => ?_)
          clear hK; have hH0 := hH; clear hH; have hH := hH9; clear hH9
          try simp only [Act.put, List.setIfInBounds_toArray, List.set_cons_zero, List.set_cons_succ]
          refine wpAnyH_ready (rs := [6]) (by kernel_rfl) (by simp) ?_
          refine AllReadyH.cons rfl (fun K hK => ?_) AllReadyH.nil
          rw [if_pos (by rfl)]
          go_wp2_with fail
          (with_reducible refine (c_iHeadF HL.out.hf HL.out.fc HL.out.fl (HY10.out.ext hH).sig (RdPc.mkc hcapQ.1 hcapQ.2 (RP.ext HQ10.out hH)) (RdI.mk (A := A5) (n := 1 + tn) (c := c5) (by first | exact hR5 | exact RI.ext hR5 ((Ext.refl _).alloc _)))).mono ?_)
          rintro e w9 ⟨FA, fc, rfl, hE6⟩
          refine hK.out _ _ (Ext.trans hH hE6) (fun hH9 => ?_)
          clear hK; have hH0 := hH; clear hH; have hH := hH9; clear hH9
          try simp only [Act.put, List.setIfInBounds_toArray, List.set_cons_zero, List.set_cons_succ]
          refine wpAnyH_take_dst (i := 7) (v := .tuple #[.agg #[.int .i64 (m1.c + mm * gg.c), .slice FA gg.cf.length fc], .bool true]) (d := some 37) rfl rfl (by kernel_rfl) (by kernel_rfl) (by kernel_rfl) (fun _ _ _ h => h) (Or.inl ⟨by rfl, ?_⟩) hH ?_
          · (intro w' hE'; (try dsimp only at hE'); have y0 := Ext.keep hE' HY10.out.c0; go_simp; try with_reducible rfl)
          try simp only [Act.put, List.setIfInBounds_toArray, List.set_cons_zero, List.set_cons_succ]
          refine wpAnyH_take_dst (i := 8) (v := .agg #[.int .i64 (m1.c + mm * gg.c), .slice FA gg.cf.length fc]) (d := some 45) rfl rfl (by kernel_rfl) (by kernel_rfl) (by kernel_rfl) (fun _ _ _ h => h) (Or.inl ⟨by rfl, ?_⟩) hH ?_
          · (intro w' hE'; (try dsimp only at hE'); have y0 := Ext.keep hE' HY10.out.c0; go_simp; try with_reducible rfl)
          try simp only [Act.put, List.setIfInBounds_toArray, List.set_cons_zero, List.set_cons_succ]
          refine wpAnyH_take_dst (i := 9) (v := .bool true) (d := some 46) rfl rfl (by kernel_rfl) (by kernel_rfl) (by kernel_rfl) (fun _ _ _ h => h) (Or.inl ⟨by rfl, ?_⟩) hH ?_
          · (intro w' hE'; (try dsimp only at hE'); have y0 := Ext.keep hE' HY10.out.c0; go_simp; try with_reducible rfl)
          try simp only [Act.put, List.setIfInBounds_toArray, List.set_cons_zero, List.set_cons_succ]
          refine wpAnyH_ready (rs := [11]) (by kernel_rfl) (by simp) ?_
          refine AllReadyH.cons rfl (fun K hK => ?_) AllReadyH.nil
          rw [if_pos (by rfl)]
          obtain ⟨hb0, hge⟩ := hB (w10.heap.size + 1) (by go_size); have hb := Bx.ext hb0 (Ext.trans hE5 hE6); have k0 := hb.c0; have k1 := hb.c1; have kf := hb.fr; go_wp2_with fail
          refine hK.out _ _ ((hH.set hge _).set hge _) (fun hH9 => ?_)
          clear hK; have hH0 := hH; clear hH; have hH := hH9; clear hH9
          try simp only [Act.put, List.setIfInBounds_toArray, List.set_cons_zero, List.set_cons_succ]
          refine wpAnyH_take_dst (i := 12) (v := .bool true) (d := some 10) rfl rfl (by kernel_rfl) (by kernel_rfl) (by kernel_rfl) (fun _ _ _ h => h) (Or.inl ⟨by rfl, ?_⟩) hH ?_
          · (intro w' hE'; (try dsimp only at hE'); have y0 := Ext.keep hE' HY10.out.c0; go_simp; try with_reducible rfl)
          try simp only [Act.put, List.setIfInBounds_toArray, List.set_cons_zero, List.set_cons_succ]
          refine wpAnyH_done (by kernel_rfl) ?_ _
          exact ⟨_, _, A5, c5, FA, fc, by rfl, Bx.put hb _ _, hH⟩
      · rw [if_pos (by rfl)]
        have hB := bx_of hH; go_wp2_with fail
        refine hK.out _ _ (hH.alloc _) (fun hH9 => ?_)
        clear hK; have hH0 := hH; clear hH; have hH := hH9; clear hH9
        try simp only [Act.put, List.setIfInBounds_toArray, List.set_cons_zero, List.set_cons_succ]
        refine wpAnyH_ready (rs := [3]) (by kernel_rfl) (by simp) ?_
        refine AllReadyH.cons rfl (fun K hK => ?_) AllReadyH.nil
        rw [if_pos (by rfl)]
        go_wp2_with fail; have hF3 := one_of hH
        refine hK.out _ _ (hH.alloc _) (fun hH9 => ?_)
        clear hK; have hH0 := hH; clear hH; have hH := hH9; clear hH9
        try simp only [Act.put, List.setIfInBounds_toArray, List.set_cons_zero, List.set_cons_succ]
        refine wpAnyH_ready (rs := [5]) (by kernel_rfl) (by simp) ?_
        refine AllReadyH.cons rfl (fun K hK => ?_) AllReadyH.nil
        rw [if_pos (by rfl)]
        refine wp_append_full (.tmp 41) (.tmp 42) 27 rfl i0 Try.underlying27 hii hiz his hib rfl (by first | exact hF3 _ (by go_size) | exact RI.ext (hF3 _ (by go_size)) ((Ext.refl _).alloc _)) rfl (RI.ext HTA.out hH) (by omega) (by omega) (fun A5 c5 w5q hO5 hE5 => ?_); have hR5 : RI w5q A5 (1 + tn) (1 :: a.flat) := hO5.ri
        refine hK.out _ _ (Ext.trans hH hE5) (fun hH9 => ?_)
        clear hK; have hH0 := hH; clear hH; have hH := hH9; clear hH9
        try simp only [Act.put, List.setIfInBounds_toArray, List.set_cons_zero, List.set_cons_succ]
        refine wpAnyH_ready (rs := [6]) (by kernel_rfl) (by simp) ?_
        refine AllReadyH.cons rfl (fun K hK => ?_) AllReadyH.nil
        rw [if_pos (by rfl)]
        go_wp2_with fail
        (with_reducible refine (c_iHeadF HL.out.hf HL.out.fc HL.out.fl (HY10.out.ext hH).sig (RdPc.mkc hcapQ.1 hcapQ.2 (RP.ext HQ10.out hH)) (RdI.mk (A := A5) (n := 1 + tn) (c := c5) (by first | exact hR5 | exact RI.ext hR5 ((Ext.refl _).alloc _)))).mono ?_)
        rintro e w9 ⟨FA, fc, rfl, hE6⟩
        refine hK.out _ _ (Ext.trans hH hE6) (fun hH9 => ?_)
        clear hK; have hH0 := hH; clear hH; have hH := hH9; clear hH9
        try simp only [Act.put, List.setIfInBounds_toArray, List.set_cons_zero, List.set_cons_succ]
        refine wpAnyH_take_dst (i := 7) (v := .tuple #[.agg #[.int .i64 (m1.c + mm * gg.c), .slice FA gg.cf.length fc], .bool true]) (d := some 37) rfl rfl (by kernel_rfl) (by kernel_rfl) (by kernel_rfl) (fun _ _ _ h => h) (Or.inl ⟨by rfl, ?_⟩) hH ?_
        · (intro w' hE'; (try dsimp only at hE'); have y0 := Ext.keep hE' HY10.out.c0; go_simp; try with_reducible rfl)
        try simp only [Act.put, List.setIfInBounds_toArray, List.set_cons_zero, List.set_cons_succ]
        refine wpAnyH_take_dst (i := 8) (v := .agg #[.int .i64 (m1.c + mm * gg.c), .slice FA gg.cf.length fc]) (d := some 45) rfl rfl (by kernel_rfl) (by kernel_rfl) (by kernel_rfl) (fun _ _ _ h => h) (Or.inl ⟨by rfl, ?_⟩) hH ?_
        · (intro w' hE'; (try dsimp only at hE'); have y0 := Ext.keep hE' HY10.out.c0; go_simp; try with_reducible rfl)
        try simp only [Act.put, List.setIfInBounds_toArray, List.set_cons_zero, List.set_cons_succ]
        refine wpAnyH_take_dst (i := 9) (v := .bool true) (d := some 46) rfl rfl (by kernel_rfl) (by kernel_rfl) (by kernel_rfl) (fun _ _ _ h => h) (Or.inl ⟨by rfl, ?_⟩) hH ?_
        · (intro w' hE'; (try dsimp only at hE'); have y0 := Ext.keep hE' HY10.out.c0; go_simp; try with_reducible rfl)
        try simp only [Act.put, List.setIfInBounds_toArray, List.set_cons_zero, List.set_cons_succ]
        refine wpAnyH_ready (rs := [11]) (by kernel_rfl) (by simp) ?_
        refine AllReadyH.cons rfl (fun K hK => ?_) AllReadyH.nil
        rw [if_pos (by rfl)]
        obtain ⟨hb0, hge⟩ := hB w10.heap.size (by go_size); have hb := Bx.ext hb0 (Ext.trans ((Ext.refl _).alloc _) (Ext.trans hE5 hE6)); have k0 := hb.c0; have k1 := hb.c1; have kf := hb.fr; go_wp2_with fail
        refine hK.out _ _ ((hH.set hge _).set hge _) (fun hH9 => ?_)
        clear hK; have hH0 := hH; clear hH; have hH := hH9; clear hH9
        try simp only [Act.put, List.setIfInBounds_toArray, List.set_cons_zero, List.set_cons_succ]
        refine wpAnyH_take_dst (i := 12) (v := .bool true) (d := some 10) rfl rfl (by kernel_rfl) (by kernel_rfl) (by kernel_rfl) (fun _ _ _ h => h) (Or.inl ⟨by rfl, ?_⟩) hH ?_
        · (intro w' hE'; (try dsimp only at hE'); have y0 := Ext.keep hE' HY10.out.c0; go_simp; try with_reducible rfl)
        try simp only [Act.put, List.setIfInBounds_toArray, List.set_cons_zero, List.set_cons_succ]
        refine wpAnyH_done (by kernel_rfl) ?_ _
        exact ⟨_, _, A5, c5, FA, fc, by rfl, Bx.put hb _ _, hH⟩
    obtain ⟨q, r, A5, c5, FA, fc, ha, ⟨hB11, hE11⟩⟩ := hR
    simp only [Act.put, List.setIfInBounds_toArray, List.set_cons_zero, List.set_cons_succ] at ha
    subst ha
    have HY11 := Lib.hid (HY10.out.ext hE11)
    have HB11 := Lib.hid hB11
    have HQ11 := Lib.hid (RP.ext HQ10.out hE11)
    have HP11 := Lib.hid (RP.ext HP10.out hE11)
    have HM11 := Lib.hid (RP.ext HM10.out hE11)
    have HT11 := Lib.hid (RI.ext HTA.out hE11)
    have HE11 := Lib.hid (Ext.trans HE10.out hE11)
    have t0 := HY11.out.c0
    clear hB11 HY10 HQ10 HP10 HM10 HTA HE10
    go_wp2_with fail
    (with_reducible refine (c_sFormB HL.out.gf HY11.out.sig (RdPs.mk HP11.out) (RdIc.mk hcapT HT11.out)).mono ?_)
    rintro e w12 ⟨GA, gc, rfl, _, hE12⟩
    obtain ⟨w13, hw13⟩ : ∃ w13, w13 = w12.alloc (.cells #[.int .i64 gg.c, .slice GA gg.cf.length gc] 38) := ⟨_, rfl⟩
    have hE123 : Ext w12 w13 := by rw [hw13]; exact extX
    have hE113 := Ext.trans hE12 hE123
    have HG13 := Lib.hid (show Bx w13 w12.heap.size (.int .i64 gg.c) (.slice GA gg.cf.length gc) by rw [hw13]; exact Bx.new w12 _ _ _ rfl)
    have HB13 := Lib.hid (HB11.out.ext hE113)
    have HY13 := Lib.hid (HY11.out.ext hE113)
    have HQ13 := Lib.hid (RP.ext HQ11.out hE113)
    have HP13 := Lib.hid (RP.ext HP11.out hE113)
    have HM13 := Lib.hid (RP.ext HM11.out hE113)
    have HE13 := Lib.hid (Ext.trans HE11.out hE113)
    clear t0 HB11 HY11 HQ11 HP11 HM11 HT11 HE11
    go_wp2_with fail
    rw [← hw13]
    clear hw13
    obtain ⟨gq, hgq⟩ : ∃ gq, gq = w12.heap.size := ⟨_, rfl⟩
    rw [← hgq] at HG13 ⊢
    clear hgq
    obtain ⟨rb, ro, mp, C1, cn, cc, eAM, hmp, hr0, hr1, hri⟩ := RP.at_ HM13.out (show 1 < 3 by omega)
    have hm1 : m1 = mp := by have := HL.out.me; rw [this] at hmp; exact Option.some.inj hmp
    subst hm1
    rw [HL.out.mc] at hri
    have hcn : cn = 1 := hri.len.symm
    subst hcn
    obtain ⟨qb, qo, z0, eC1, hz0, hq0⟩ := RI.at_ hri (show 0 < 1 by omega)
    cases hz0
    cases eAM
    subst eC1
    rw [Nat.add_zero] at hq0
    have hr0' : w13.cell? ⟨mb, mo + 2, none⟩ = some (.int .i64 m1.c) := by simpa using hr0
    have hr1' : w13.cell? ⟨mb, mo + 3, none⟩ = some (.slice (some ⟨qb, qo, none⟩) 1 cc) := by simpa [Nat.add_assoc] using hr1
    have hr1'' : w13.cell? ⟨mb, mo + 2 + 1, none⟩ = some (.slice (some ⟨qb, qo, none⟩) 1 cc) := hr1'
    have hw1 : IntKind.i64.wrap (mm * gg.c) = mm * gg.c := IntWalk.i64_in _ (by
      have h1 := HL.out.mb
      have h2 := HL.out.gb
      rcases (show mm = 0 ∨ mm = 1 by omega) with e | e <;> rw [e] <;> omega)
    have hw2 : IntKind.i64.wrap (m1.c + mm * gg.c) = m1.c + mm * gg.c := IntWalk.i64_in _ (by
      have h1 := HL.out.mb
      have h2 := HL.out.gb
      have h3 := HL.out.cb
      rcases (show mm = 0 ∨ mm = 1 by omega) with e | e <;> rw [e] <;> omega)
    clear hr0 hr1 hri hmp
    go_wp2_with fail
    refine wp_only (R := fun (a0 : Act) (a8 : Act) (w9 : World) => a8 = (((((((((((((((((((((((((((((((((((((((((((((((a0.put (some 55) (.pointer (some ⟨p, 0, none⟩))).put (some 56) (.agg #[.slice AS 3 cS])).put (some 57) (.slice AQ 6 cQ)).put (some 58) (.bool true)).put (some 59) (.bool false)).put (some 60) (.bool false)).put (some 61) (.pointer (some ⟨p, 0, none⟩))).put (some 62) (.agg #[.slice AS 3 cS])).put (some 63) (.slice (some ⟨pb, po, none⟩) 3 3)).put (some 64) (.bool false)).put (some 65) (.bool false)).put (some 66) (.bool false)).put (some 67) (.bool true)).put (some 68) (.bool false)).put (some 69) (.bool false)).put (some 70) (.bool false)).put (some 71) (.bool true)).put (some 72) (.bool false)).put (some 73) (.bool false)).put (some 74) (.bool false)).put (some 75) (.pointer (some ⟨q, 0, none⟩))).put (some 76) (.int .i64 (m1.c + mm * gg.c))).put (some 77) (.slice (some ⟨mb, mo, none⟩) 3 3)).put (some 78) (.pointer (some ⟨mb, mo + 2, none⟩))).put (some 79) (.pointer (some ⟨mb, mo + 2, none⟩))).put (some 80) (.int .i64 m1.c)).put (some 81) (.slice (some ⟨mb, mo, none⟩) 3 3)).put (some 82) (.pointer (some ⟨mb, mo + 2, none⟩))).put (some 83) (.pointer (some ⟨mb, mo + 3, none⟩))).put (some 84) (.slice (some ⟨qb, qo, none⟩) 1 cc)).put (some 85) (.pointer (some ⟨qb, qo, none⟩))).put (some 86) (.int .i64 mm)).put (some 87) (.pointer (some ⟨gq, 0, none⟩))).put (some 88) (.int .i64 gg.c)).put (some 89) (.int .i64 (mm * gg.c))).put (some 90) (.int .i64 (m1.c + mm * gg.c))).put (some 91) (.bool false)).put (some 92) (.bool false)).put (some 93) (.bool false)).put (some 94) (.pointer (some ⟨q, 1, none⟩))).put (some 95) (.slice FA gg.cf.length fc)).put (some 96) (.int .i64 (gg.cf.length : Int))).put (some 97) (.pointer (some ⟨gq, 1, none⟩))).put (some 98) (.slice GA gg.cf.length gc)).put (some 99) (.int .i64 (gg.cf.length : Int))).put (some 100) (.bool false)).put (some 101) (.bool false)) ∧ Ext w13 w9) ?_ (fun a8 w14 hR => ?_)
    · refine wp_region_held_drew (S := (fun w' => Ext w13 w')) (by kernel_rfl) ((Ext.refl w13).drew) (fun hH => ?_)
      refine wpAnyH_take_dst (i := 0) (v := .pointer (some ⟨p, 0, none⟩)) (d := some 55) rfl rfl (by kernel_rfl) (by kernel_rfl) (by kernel_rfl) (fun _ _ _ h => h) (Or.inl ⟨by rfl, ?_⟩) hH ?_
      · (intro w' hE'; (try dsimp only at hE'); have y0 := Ext.keep hE' HY13.out.c0; have y1 := Ext.keep hE' HB13.out.c0; have y2 := Ext.keep hE' HB13.out.c1; have y3 := Ext.keep hE' HG13.out.c0; have y4 := Ext.keep hE' HG13.out.c1; have y5 := Ext.keep hE' hr0'; have y6 := Ext.keep hE' hr1'; have y7 := Ext.keep hE' hr1''; have y8 := Ext.keep hE' hq0; go_simp; try with_reducible rfl)
      try simp only [Act.put, List.setIfInBounds_toArray, List.set_cons_zero, List.set_cons_succ]
      refine wpAnyH_take_dst (i := 1) (v := .agg #[.slice AS 3 cS]) (d := some 56) rfl rfl (by kernel_rfl) (by kernel_rfl) (by kernel_rfl) (fun _ _ _ h => h) (Or.inl ⟨by rfl, ?_⟩) hH ?_
      · (intro w' hE'; (try dsimp only at hE'); have y0 := Ext.keep hE' HY13.out.c0; have y1 := Ext.keep hE' HB13.out.c0; have y2 := Ext.keep hE' HB13.out.c1; have y3 := Ext.keep hE' HG13.out.c0; have y4 := Ext.keep hE' HG13.out.c1; have y5 := Ext.keep hE' hr0'; have y6 := Ext.keep hE' hr1'; have y7 := Ext.keep hE' hr1''; have y8 := Ext.keep hE' hq0; go_simp; try with_reducible rfl)
      try simp only [Act.put, List.setIfInBounds_toArray, List.set_cons_zero, List.set_cons_succ]
      refine wpAnyH_take_dst (i := 2) (v := .slice AQ 6 cQ) (d := some 57) rfl rfl (by kernel_rfl) (by kernel_rfl) (by kernel_rfl) (fun _ _ _ h => h) (Or.inl ⟨by rfl, ?_⟩) hH ?_
      · (intro w' hE'; (try dsimp only at hE'); have y0 := Ext.keep hE' HY13.out.c0; have y1 := Ext.keep hE' HB13.out.c0; have y2 := Ext.keep hE' HB13.out.c1; have y3 := Ext.keep hE' HG13.out.c0; have y4 := Ext.keep hE' HG13.out.c1; have y5 := Ext.keep hE' hr0'; have y6 := Ext.keep hE' hr1'; have y7 := Ext.keep hE' hr1''; have y8 := Ext.keep hE' hq0; go_simp; try with_reducible rfl)
      try simp only [Act.put, List.setIfInBounds_toArray, List.set_cons_zero, List.set_cons_succ]
      refine wpAnyH_ready (rs := [3]) (by kernel_rfl) (by simp) ?_
      refine AllReadyH.cons rfl (fun K hK => ?_) AllReadyH.nil
      rw [if_pos (by rfl)]
      go_wp2_with fail
      (with_reducible refine (c_markB HL.out.mo (HY13.out.ext hH).sig (RdPc.mkc hcapQ.1 hcapQ.2 (RP.ext HQ13.out hH))).mono ?_)
      rintro e w9 ⟨rfl, hE9⟩
      refine hK.out _ _ (Ext.trans hH hE9) (fun hH9 => ?_)
      clear hK; have hH0 := hH; clear hH; have hH := hH9; clear hH9
      try simp only [Act.put, List.setIfInBounds_toArray, List.set_cons_zero, List.set_cons_succ]
      refine wpAnyH_take_dst (i := 4) (v := .bool false) (d := some 59) rfl rfl (by kernel_rfl) (by kernel_rfl) (by kernel_rfl) (fun _ _ _ h => h) (Or.inl ⟨by rfl, ?_⟩) hH ?_
      · (intro w' hE'; (try dsimp only at hE'); have y0 := Ext.keep hE' HY13.out.c0; have y1 := Ext.keep hE' HB13.out.c0; have y2 := Ext.keep hE' HB13.out.c1; have y3 := Ext.keep hE' HG13.out.c0; have y4 := Ext.keep hE' HG13.out.c1; have y5 := Ext.keep hE' hr0'; have y6 := Ext.keep hE' hr1'; have y7 := Ext.keep hE' hr1''; have y8 := Ext.keep hE' hq0; go_simp; try with_reducible rfl)
      try simp only [Act.put, List.setIfInBounds_toArray, List.set_cons_zero, List.set_cons_succ]
      refine wpAnyH_take_dst (i := 5) (v := .bool false) (d := some 60) rfl rfl (by kernel_rfl) (by kernel_rfl) (by kernel_rfl) (fun _ _ _ h => h) (Or.inl ⟨by rfl, ?_⟩) hH ?_
      · (intro w' hE'; (try dsimp only at hE'); have y0 := Ext.keep hE' HY13.out.c0; have y1 := Ext.keep hE' HB13.out.c0; have y2 := Ext.keep hE' HB13.out.c1; have y3 := Ext.keep hE' HG13.out.c0; have y4 := Ext.keep hE' HG13.out.c1; have y5 := Ext.keep hE' hr0'; have y6 := Ext.keep hE' hr1'; have y7 := Ext.keep hE' hr1''; have y8 := Ext.keep hE' hq0; go_simp; try with_reducible rfl)
      try simp only [Act.put, List.setIfInBounds_toArray, List.set_cons_zero, List.set_cons_succ]
      refine wpAnyH_take_dst (i := 6) (v := .pointer (some ⟨p, 0, none⟩)) (d := some 61) rfl rfl (by kernel_rfl) (by kernel_rfl) (by kernel_rfl) (fun _ _ _ h => h) (Or.inl ⟨by rfl, ?_⟩) hH ?_
      · (intro w' hE'; (try dsimp only at hE'); have y0 := Ext.keep hE' HY13.out.c0; have y1 := Ext.keep hE' HB13.out.c0; have y2 := Ext.keep hE' HB13.out.c1; have y3 := Ext.keep hE' HG13.out.c0; have y4 := Ext.keep hE' HG13.out.c1; have y5 := Ext.keep hE' hr0'; have y6 := Ext.keep hE' hr1'; have y7 := Ext.keep hE' hr1''; have y8 := Ext.keep hE' hq0; go_simp; try with_reducible rfl)
      try simp only [Act.put, List.setIfInBounds_toArray, List.set_cons_zero, List.set_cons_succ]
      refine wpAnyH_take_dst (i := 7) (v := .agg #[.slice AS 3 cS]) (d := some 62) rfl rfl (by kernel_rfl) (by kernel_rfl) (by kernel_rfl) (fun _ _ _ h => h) (Or.inl ⟨by rfl, ?_⟩) hH ?_
      · (intro w' hE'; (try dsimp only at hE'); have y0 := Ext.keep hE' HY13.out.c0; have y1 := Ext.keep hE' HB13.out.c0; have y2 := Ext.keep hE' HB13.out.c1; have y3 := Ext.keep hE' HG13.out.c0; have y4 := Ext.keep hE' HG13.out.c1; have y5 := Ext.keep hE' hr0'; have y6 := Ext.keep hE' hr1'; have y7 := Ext.keep hE' hr1''; have y8 := Ext.keep hE' hq0; go_simp; try with_reducible rfl)
      try simp only [Act.put, List.setIfInBounds_toArray, List.set_cons_zero, List.set_cons_succ]
      refine wpAnyH_take_dst (i := 8) (v := .slice (some ⟨pb, po, none⟩) 3 3) (d := some 63) rfl rfl (by kernel_rfl) (by kernel_rfl) (by kernel_rfl) (fun _ _ _ h => h) (Or.inl ⟨by rfl, ?_⟩) hH ?_
      · (intro w' hE'; (try dsimp only at hE'); have y0 := Ext.keep hE' HY13.out.c0; have y1 := Ext.keep hE' HB13.out.c0; have y2 := Ext.keep hE' HB13.out.c1; have y3 := Ext.keep hE' HG13.out.c0; have y4 := Ext.keep hE' HG13.out.c1; have y5 := Ext.keep hE' hr0'; have y6 := Ext.keep hE' hr1'; have y7 := Ext.keep hE' hr1''; have y8 := Ext.keep hE' hq0; go_simp; try with_reducible rfl)
      try simp only [Act.put, List.setIfInBounds_toArray, List.set_cons_zero, List.set_cons_succ]
      refine wpAnyH_ready (rs := [9]) (by kernel_rfl) (by simp) ?_
      refine AllReadyH.cons rfl (fun K hK => ?_) AllReadyH.nil
      rw [if_pos (by rfl)]
      go_wp2_with fail
      (with_reducible refine (c_markB HL.out.mp (HY13.out.ext hH).sig (RdPc.mk (RP.ext HP13.out hH))).mono ?_)
      rintro e w9 ⟨rfl, hE9⟩
      refine hK.out _ _ (Ext.trans hH hE9) (fun hH9 => ?_)
      clear hK; have hH0 := hH; clear hH; have hH := hH9; clear hH9
      try simp only [Act.put, List.setIfInBounds_toArray, List.set_cons_zero, List.set_cons_succ]
      refine wpAnyH_take_dst (i := 10) (v := .bool false) (d := some 65) rfl rfl (by kernel_rfl) (by kernel_rfl) (by kernel_rfl) (fun _ _ _ h => h) (Or.inl ⟨by rfl, ?_⟩) hH ?_
      · (intro w' hE'; (try dsimp only at hE'); have y0 := Ext.keep hE' HY13.out.c0; have y1 := Ext.keep hE' HB13.out.c0; have y2 := Ext.keep hE' HB13.out.c1; have y3 := Ext.keep hE' HG13.out.c0; have y4 := Ext.keep hE' HG13.out.c1; have y5 := Ext.keep hE' hr0'; have y6 := Ext.keep hE' hr1'; have y7 := Ext.keep hE' hr1''; have y8 := Ext.keep hE' hq0; go_simp; try with_reducible rfl)
      try simp only [Act.put, List.setIfInBounds_toArray, List.set_cons_zero, List.set_cons_succ]
      refine wpAnyH_take_dst (i := 11) (v := .bool false) (d := some 66) rfl rfl (by kernel_rfl) (by kernel_rfl) (by kernel_rfl) (fun _ _ _ h => h) (Or.inl ⟨by rfl, ?_⟩) hH ?_
      · (intro w' hE'; (try dsimp only at hE'); have y0 := Ext.keep hE' HY13.out.c0; have y1 := Ext.keep hE' HB13.out.c0; have y2 := Ext.keep hE' HB13.out.c1; have y3 := Ext.keep hE' HG13.out.c0; have y4 := Ext.keep hE' HG13.out.c1; have y5 := Ext.keep hE' hr0'; have y6 := Ext.keep hE' hr1'; have y7 := Ext.keep hE' hr1''; have y8 := Ext.keep hE' hq0; go_simp; try with_reducible rfl)
      try simp only [Act.put, List.setIfInBounds_toArray, List.set_cons_zero, List.set_cons_succ]
      refine wpAnyH_take_dst (i := 12) (v := .bool true) (d := some 67) rfl rfl (by kernel_rfl) (by kernel_rfl) (by kernel_rfl) (fun _ _ _ h => h) (Or.inl ⟨by rfl, ?_⟩) hH ?_
      · (intro w' hE'; (try dsimp only at hE'); have y0 := Ext.keep hE' HY13.out.c0; have y1 := Ext.keep hE' HB13.out.c0; have y2 := Ext.keep hE' HB13.out.c1; have y3 := Ext.keep hE' HG13.out.c0; have y4 := Ext.keep hE' HG13.out.c1; have y5 := Ext.keep hE' hr0'; have y6 := Ext.keep hE' hr1'; have y7 := Ext.keep hE' hr1''; have y8 := Ext.keep hE' hq0; go_simp; try with_reducible rfl)
      try simp only [Act.put, List.setIfInBounds_toArray, List.set_cons_zero, List.set_cons_succ]
      refine wpAnyH_take_dst (i := 13) (v := .bool false) (d := some 68) rfl rfl (by kernel_rfl) (by kernel_rfl) (by kernel_rfl) (fun _ _ _ h => h) (Or.inl ⟨by rfl, ?_⟩) hH ?_
      · (intro w' hE'; (try dsimp only at hE'); have y0 := Ext.keep hE' HY13.out.c0; have y1 := Ext.keep hE' HB13.out.c0; have y2 := Ext.keep hE' HB13.out.c1; have y3 := Ext.keep hE' HG13.out.c0; have y4 := Ext.keep hE' HG13.out.c1; have y5 := Ext.keep hE' hr0'; have y6 := Ext.keep hE' hr1'; have y7 := Ext.keep hE' hr1''; have y8 := Ext.keep hE' hq0; go_simp; try with_reducible rfl)
      try simp only [Act.put, List.setIfInBounds_toArray, List.set_cons_zero, List.set_cons_succ]
      refine wpAnyH_take_dst (i := 14) (v := .bool false) (d := some 69) rfl rfl (by kernel_rfl) (by kernel_rfl) (by kernel_rfl) (fun _ _ _ h => h) (Or.inl ⟨by rfl, ?_⟩) hH ?_
      · (intro w' hE'; (try dsimp only at hE'); have y0 := Ext.keep hE' HY13.out.c0; have y1 := Ext.keep hE' HB13.out.c0; have y2 := Ext.keep hE' HB13.out.c1; have y3 := Ext.keep hE' HG13.out.c0; have y4 := Ext.keep hE' HG13.out.c1; have y5 := Ext.keep hE' hr0'; have y6 := Ext.keep hE' hr1'; have y7 := Ext.keep hE' hr1''; have y8 := Ext.keep hE' hq0; go_simp; try with_reducible rfl)
      try simp only [Act.put, List.setIfInBounds_toArray, List.set_cons_zero, List.set_cons_succ]
      refine wpAnyH_take_dst (i := 15) (v := .bool false) (d := some 70) rfl rfl (by kernel_rfl) (by kernel_rfl) (by kernel_rfl) (fun _ _ _ h => h) (Or.inl ⟨by rfl, ?_⟩) hH ?_
      · (intro w' hE'; (try dsimp only at hE'); have y0 := Ext.keep hE' HY13.out.c0; have y1 := Ext.keep hE' HB13.out.c0; have y2 := Ext.keep hE' HB13.out.c1; have y3 := Ext.keep hE' HG13.out.c0; have y4 := Ext.keep hE' HG13.out.c1; have y5 := Ext.keep hE' hr0'; have y6 := Ext.keep hE' hr1'; have y7 := Ext.keep hE' hr1''; have y8 := Ext.keep hE' hq0; go_simp; try with_reducible rfl)
      try simp only [Act.put, List.setIfInBounds_toArray, List.set_cons_zero, List.set_cons_succ]
      refine wpAnyH_take_dst (i := 16) (v := .bool true) (d := some 71) rfl rfl (by kernel_rfl) (by kernel_rfl) (by kernel_rfl) (fun _ _ _ h => h) (Or.inl ⟨by rfl, ?_⟩) hH ?_
      · (intro w' hE'; (try dsimp only at hE'); have y0 := Ext.keep hE' HY13.out.c0; have y1 := Ext.keep hE' HB13.out.c0; have y2 := Ext.keep hE' HB13.out.c1; have y3 := Ext.keep hE' HG13.out.c0; have y4 := Ext.keep hE' HG13.out.c1; have y5 := Ext.keep hE' hr0'; have y6 := Ext.keep hE' hr1'; have y7 := Ext.keep hE' hr1''; have y8 := Ext.keep hE' hq0; go_simp; try with_reducible rfl)
      try simp only [Act.put, List.setIfInBounds_toArray, List.set_cons_zero, List.set_cons_succ]
      refine wpAnyH_take_dst (i := 17) (v := .bool false) (d := some 72) rfl rfl (by kernel_rfl) (by kernel_rfl) (by kernel_rfl) (fun _ _ _ h => h) (Or.inl ⟨by rfl, ?_⟩) hH ?_
      · (intro w' hE'; (try dsimp only at hE'); have y0 := Ext.keep hE' HY13.out.c0; have y1 := Ext.keep hE' HB13.out.c0; have y2 := Ext.keep hE' HB13.out.c1; have y3 := Ext.keep hE' HG13.out.c0; have y4 := Ext.keep hE' HG13.out.c1; have y5 := Ext.keep hE' hr0'; have y6 := Ext.keep hE' hr1'; have y7 := Ext.keep hE' hr1''; have y8 := Ext.keep hE' hq0; go_simp; try with_reducible rfl)
      try simp only [Act.put, List.setIfInBounds_toArray, List.set_cons_zero, List.set_cons_succ]
      refine wpAnyH_take_dst (i := 18) (v := .bool false) (d := some 73) rfl rfl (by kernel_rfl) (by kernel_rfl) (by kernel_rfl) (fun _ _ _ h => h) (Or.inl ⟨by rfl, ?_⟩) hH ?_
      · (intro w' hE'; (try dsimp only at hE'); have y0 := Ext.keep hE' HY13.out.c0; have y1 := Ext.keep hE' HB13.out.c0; have y2 := Ext.keep hE' HB13.out.c1; have y3 := Ext.keep hE' HG13.out.c0; have y4 := Ext.keep hE' HG13.out.c1; have y5 := Ext.keep hE' hr0'; have y6 := Ext.keep hE' hr1'; have y7 := Ext.keep hE' hr1''; have y8 := Ext.keep hE' hq0; go_simp; try with_reducible rfl)
      try simp only [Act.put, List.setIfInBounds_toArray, List.set_cons_zero, List.set_cons_succ]
      refine wpAnyH_take_dst (i := 19) (v := .bool false) (d := some 74) rfl rfl (by kernel_rfl) (by kernel_rfl) (by kernel_rfl) (fun _ _ _ h => h) (Or.inl ⟨by rfl, ?_⟩) hH ?_
      · (intro w' hE'; (try dsimp only at hE'); have y0 := Ext.keep hE' HY13.out.c0; have y1 := Ext.keep hE' HB13.out.c0; have y2 := Ext.keep hE' HB13.out.c1; have y3 := Ext.keep hE' HG13.out.c0; have y4 := Ext.keep hE' HG13.out.c1; have y5 := Ext.keep hE' hr0'; have y6 := Ext.keep hE' hr1'; have y7 := Ext.keep hE' hr1''; have y8 := Ext.keep hE' hq0; go_simp; try with_reducible rfl)
      try simp only [Act.put, List.setIfInBounds_toArray, List.set_cons_zero, List.set_cons_succ]
      refine wpAnyH_take_dst (i := 20) (v := .pointer (some ⟨q, 0, none⟩)) (d := some 75) rfl rfl (by kernel_rfl) (by kernel_rfl) (by kernel_rfl) (fun _ _ _ h => h) (Or.inl ⟨by rfl, ?_⟩) hH ?_
      · (intro w' hE'; (try dsimp only at hE'); have y0 := Ext.keep hE' HY13.out.c0; have y1 := Ext.keep hE' HB13.out.c0; have y2 := Ext.keep hE' HB13.out.c1; have y3 := Ext.keep hE' HG13.out.c0; have y4 := Ext.keep hE' HG13.out.c1; have y5 := Ext.keep hE' hr0'; have y6 := Ext.keep hE' hr1'; have y7 := Ext.keep hE' hr1''; have y8 := Ext.keep hE' hq0; go_simp; try with_reducible rfl)
      try simp only [Act.put, List.setIfInBounds_toArray, List.set_cons_zero, List.set_cons_succ]
      refine wpAnyH_take_dst (i := 21) (v := .int .i64 (m1.c + mm * gg.c)) (d := some 76) rfl rfl (by kernel_rfl) (by kernel_rfl) (by kernel_rfl) (fun _ _ _ h => h) (Or.inl ⟨by rfl, ?_⟩) hH ?_
      · (intro w' hE'; (try dsimp only at hE'); have y0 := Ext.keep hE' HY13.out.c0; have y1 := Ext.keep hE' HB13.out.c0; have y2 := Ext.keep hE' HB13.out.c1; have y3 := Ext.keep hE' HG13.out.c0; have y4 := Ext.keep hE' HG13.out.c1; have y5 := Ext.keep hE' hr0'; have y6 := Ext.keep hE' hr1'; have y7 := Ext.keep hE' hr1''; have y8 := Ext.keep hE' hq0; go_simp; try with_reducible rfl)
      try simp only [Act.put, List.setIfInBounds_toArray, List.set_cons_zero, List.set_cons_succ]
      refine wpAnyH_take_dst (i := 22) (v := .slice (some ⟨mb, mo, none⟩) 3 3) (d := some 77) rfl rfl (by kernel_rfl) (by kernel_rfl) (by kernel_rfl) (fun _ _ _ h => h) (Or.inl ⟨by rfl, ?_⟩) hH ?_
      · (intro w' hE'; (try dsimp only at hE'); have y0 := Ext.keep hE' HY13.out.c0; have y1 := Ext.keep hE' HB13.out.c0; have y2 := Ext.keep hE' HB13.out.c1; have y3 := Ext.keep hE' HG13.out.c0; have y4 := Ext.keep hE' HG13.out.c1; have y5 := Ext.keep hE' hr0'; have y6 := Ext.keep hE' hr1'; have y7 := Ext.keep hE' hr1''; have y8 := Ext.keep hE' hq0; go_simp; try with_reducible rfl)
      try simp only [Act.put, List.setIfInBounds_toArray, List.set_cons_zero, List.set_cons_succ]
      refine wpAnyH_take_dst (i := 23) (v := .pointer (some ⟨mb, mo + 2, none⟩)) (d := some 78) rfl rfl (by kernel_rfl) (by kernel_rfl) (by kernel_rfl) (fun _ _ _ h => h) (Or.inl ⟨by rfl, ?_⟩) hH ?_
      · (intro w' hE'; (try dsimp only at hE'); have y0 := Ext.keep hE' HY13.out.c0; have y1 := Ext.keep hE' HB13.out.c0; have y2 := Ext.keep hE' HB13.out.c1; have y3 := Ext.keep hE' HG13.out.c0; have y4 := Ext.keep hE' HG13.out.c1; have y5 := Ext.keep hE' hr0'; have y6 := Ext.keep hE' hr1'; have y7 := Ext.keep hE' hr1''; have y8 := Ext.keep hE' hq0; go_simp; try with_reducible rfl)
      try simp only [Act.put, List.setIfInBounds_toArray, List.set_cons_zero, List.set_cons_succ]
      refine wpAnyH_take_dst (i := 24) (v := .pointer (some ⟨mb, mo + 2, none⟩)) (d := some 79) rfl rfl (by kernel_rfl) (by kernel_rfl) (by kernel_rfl) (fun _ _ _ h => h) (Or.inl ⟨by rfl, ?_⟩) hH ?_
      · (intro w' hE'; (try dsimp only at hE'); have y0 := Ext.keep hE' HY13.out.c0; have y1 := Ext.keep hE' HB13.out.c0; have y2 := Ext.keep hE' HB13.out.c1; have y3 := Ext.keep hE' HG13.out.c0; have y4 := Ext.keep hE' HG13.out.c1; have y5 := Ext.keep hE' hr0'; have y6 := Ext.keep hE' hr1'; have y7 := Ext.keep hE' hr1''; have y8 := Ext.keep hE' hq0; go_simp; try with_reducible rfl)
      try simp only [Act.put, List.setIfInBounds_toArray, List.set_cons_zero, List.set_cons_succ]
      refine wpAnyH_take_dst (i := 25) (v := .int .i64 m1.c) (d := some 80) rfl rfl (by kernel_rfl) (by kernel_rfl) (by kernel_rfl) (fun _ _ _ h => h) (Or.inl ⟨by rfl, ?_⟩) hH ?_
      · (intro w' hE'; (try dsimp only at hE'); have y0 := Ext.keep hE' HY13.out.c0; have y1 := Ext.keep hE' HB13.out.c0; have y2 := Ext.keep hE' HB13.out.c1; have y3 := Ext.keep hE' HG13.out.c0; have y4 := Ext.keep hE' HG13.out.c1; have y5 := Ext.keep hE' hr0'; have y6 := Ext.keep hE' hr1'; have y7 := Ext.keep hE' hr1''; have y8 := Ext.keep hE' hq0; go_simp; try with_reducible rfl)
      try simp only [Act.put, List.setIfInBounds_toArray, List.set_cons_zero, List.set_cons_succ]
      refine wpAnyH_take_dst (i := 26) (v := .slice (some ⟨mb, mo, none⟩) 3 3) (d := some 81) rfl rfl (by kernel_rfl) (by kernel_rfl) (by kernel_rfl) (fun _ _ _ h => h) (Or.inl ⟨by rfl, ?_⟩) hH ?_
      · (intro w' hE'; (try dsimp only at hE'); have y0 := Ext.keep hE' HY13.out.c0; have y1 := Ext.keep hE' HB13.out.c0; have y2 := Ext.keep hE' HB13.out.c1; have y3 := Ext.keep hE' HG13.out.c0; have y4 := Ext.keep hE' HG13.out.c1; have y5 := Ext.keep hE' hr0'; have y6 := Ext.keep hE' hr1'; have y7 := Ext.keep hE' hr1''; have y8 := Ext.keep hE' hq0; go_simp; try with_reducible rfl)
      try simp only [Act.put, List.setIfInBounds_toArray, List.set_cons_zero, List.set_cons_succ]
      refine wpAnyH_take_dst (i := 27) (v := .pointer (some ⟨mb, mo + 2, none⟩)) (d := some 82) rfl rfl (by kernel_rfl) (by kernel_rfl) (by kernel_rfl) (fun _ _ _ h => h) (Or.inl ⟨by rfl, ?_⟩) hH ?_
      · (intro w' hE'; (try dsimp only at hE'); have y0 := Ext.keep hE' HY13.out.c0; have y1 := Ext.keep hE' HB13.out.c0; have y2 := Ext.keep hE' HB13.out.c1; have y3 := Ext.keep hE' HG13.out.c0; have y4 := Ext.keep hE' HG13.out.c1; have y5 := Ext.keep hE' hr0'; have y6 := Ext.keep hE' hr1'; have y7 := Ext.keep hE' hr1''; have y8 := Ext.keep hE' hq0; go_simp; try with_reducible rfl)
      try simp only [Act.put, List.setIfInBounds_toArray, List.set_cons_zero, List.set_cons_succ]
      refine wpAnyH_take_dst (i := 28) (v := .pointer (some ⟨mb, mo + 3, none⟩)) (d := some 83) rfl rfl (by kernel_rfl) (by kernel_rfl) (by kernel_rfl) (fun _ _ _ h => h) (Or.inl ⟨by rfl, ?_⟩) hH ?_
      · (intro w' hE'; (try dsimp only at hE'); have y0 := Ext.keep hE' HY13.out.c0; have y1 := Ext.keep hE' HB13.out.c0; have y2 := Ext.keep hE' HB13.out.c1; have y3 := Ext.keep hE' HG13.out.c0; have y4 := Ext.keep hE' HG13.out.c1; have y5 := Ext.keep hE' hr0'; have y6 := Ext.keep hE' hr1'; have y7 := Ext.keep hE' hr1''; have y8 := Ext.keep hE' hq0; go_simp; try with_reducible rfl)
      try simp only [Act.put, List.setIfInBounds_toArray, List.set_cons_zero, List.set_cons_succ]
      refine wpAnyH_take_dst (i := 29) (v := .slice (some ⟨qb, qo, none⟩) 1 cc) (d := some 84) rfl rfl (by kernel_rfl) (by kernel_rfl) (by kernel_rfl) (fun _ _ _ h => h) (Or.inl ⟨by rfl, ?_⟩) hH ?_
      · (intro w' hE'; (try dsimp only at hE'); have y0 := Ext.keep hE' HY13.out.c0; have y1 := Ext.keep hE' HB13.out.c0; have y2 := Ext.keep hE' HB13.out.c1; have y3 := Ext.keep hE' HG13.out.c0; have y4 := Ext.keep hE' HG13.out.c1; have y5 := Ext.keep hE' hr0'; have y6 := Ext.keep hE' hr1'; have y7 := Ext.keep hE' hr1''; have y8 := Ext.keep hE' hq0; go_simp; try with_reducible rfl)
      try simp only [Act.put, List.setIfInBounds_toArray, List.set_cons_zero, List.set_cons_succ]
      refine wpAnyH_take_dst (i := 30) (v := .pointer (some ⟨qb, qo, none⟩)) (d := some 85) rfl rfl (by kernel_rfl) (by kernel_rfl) (by kernel_rfl) (fun _ _ _ h => h) (Or.inl ⟨by rfl, ?_⟩) hH ?_
      · (intro w' hE'; (try dsimp only at hE'); have y0 := Ext.keep hE' HY13.out.c0; have y1 := Ext.keep hE' HB13.out.c0; have y2 := Ext.keep hE' HB13.out.c1; have y3 := Ext.keep hE' HG13.out.c0; have y4 := Ext.keep hE' HG13.out.c1; have y5 := Ext.keep hE' hr0'; have y6 := Ext.keep hE' hr1'; have y7 := Ext.keep hE' hr1''; have y8 := Ext.keep hE' hq0; go_simp; try with_reducible rfl)
      try simp only [Act.put, List.setIfInBounds_toArray, List.set_cons_zero, List.set_cons_succ]
      refine wpAnyH_take_dst (i := 31) (v := .int .i64 mm) (d := some 86) rfl rfl (by kernel_rfl) (by kernel_rfl) (by kernel_rfl) (fun _ _ _ h => h) (Or.inl ⟨by rfl, ?_⟩) hH ?_
      · (intro w' hE'; (try dsimp only at hE'); have y0 := Ext.keep hE' HY13.out.c0; have y1 := Ext.keep hE' HB13.out.c0; have y2 := Ext.keep hE' HB13.out.c1; have y3 := Ext.keep hE' HG13.out.c0; have y4 := Ext.keep hE' HG13.out.c1; have y5 := Ext.keep hE' hr0'; have y6 := Ext.keep hE' hr1'; have y7 := Ext.keep hE' hr1''; have y8 := Ext.keep hE' hq0; go_simp; try with_reducible rfl)
      try simp only [Act.put, List.setIfInBounds_toArray, List.set_cons_zero, List.set_cons_succ]
      refine wpAnyH_take_dst (i := 32) (v := .pointer (some ⟨gq, 0, none⟩)) (d := some 87) rfl rfl (by kernel_rfl) (by kernel_rfl) (by kernel_rfl) (fun _ _ _ h => h) (Or.inl ⟨by rfl, ?_⟩) hH ?_
      · (intro w' hE'; (try dsimp only at hE'); have y0 := Ext.keep hE' HY13.out.c0; have y1 := Ext.keep hE' HB13.out.c0; have y2 := Ext.keep hE' HB13.out.c1; have y3 := Ext.keep hE' HG13.out.c0; have y4 := Ext.keep hE' HG13.out.c1; have y5 := Ext.keep hE' hr0'; have y6 := Ext.keep hE' hr1'; have y7 := Ext.keep hE' hr1''; have y8 := Ext.keep hE' hq0; go_simp; try with_reducible rfl)
      try simp only [Act.put, List.setIfInBounds_toArray, List.set_cons_zero, List.set_cons_succ]
      refine wpAnyH_take_dst (i := 33) (v := .int .i64 gg.c) (d := some 88) rfl rfl (by kernel_rfl) (by kernel_rfl) (by kernel_rfl) (fun _ _ _ h => h) (Or.inl ⟨by rfl, ?_⟩) hH ?_
      · (intro w' hE'; (try dsimp only at hE'); have y0 := Ext.keep hE' HY13.out.c0; have y1 := Ext.keep hE' HB13.out.c0; have y2 := Ext.keep hE' HB13.out.c1; have y3 := Ext.keep hE' HG13.out.c0; have y4 := Ext.keep hE' HG13.out.c1; have y5 := Ext.keep hE' hr0'; have y6 := Ext.keep hE' hr1'; have y7 := Ext.keep hE' hr1''; have y8 := Ext.keep hE' hq0; go_simp; try with_reducible rfl)
      try simp only [Act.put, List.setIfInBounds_toArray, List.set_cons_zero, List.set_cons_succ]
      refine wpAnyH_take_dst (i := 34) (v := .int .i64 (mm * gg.c)) (d := some 89) rfl rfl (by kernel_rfl) (by kernel_rfl) (by kernel_rfl) (fun _ _ _ h => h) (Or.inl ⟨by rfl, ?_⟩) hH ?_
      · (intro w' hE'; (try dsimp only at hE'); have y0 := Ext.keep hE' HY13.out.c0; have y1 := Ext.keep hE' HB13.out.c0; have y2 := Ext.keep hE' HB13.out.c1; have y3 := Ext.keep hE' HG13.out.c0; have y4 := Ext.keep hE' HG13.out.c1; have y5 := Ext.keep hE' hr0'; have y6 := Ext.keep hE' hr1'; have y7 := Ext.keep hE' hr1''; have y8 := Ext.keep hE' hq0; go_simp; try with_reducible rfl)
      try simp only [Act.put, List.setIfInBounds_toArray, List.set_cons_zero, List.set_cons_succ]
      refine wpAnyH_take_dst (i := 35) (v := .int .i64 (m1.c + mm * gg.c)) (d := some 90) rfl rfl (by kernel_rfl) (by kernel_rfl) (by kernel_rfl) (fun _ _ _ h => h) (Or.inl ⟨by rfl, ?_⟩) hH ?_
      · (intro w' hE'; (try dsimp only at hE'); have y0 := Ext.keep hE' HY13.out.c0; have y1 := Ext.keep hE' HB13.out.c0; have y2 := Ext.keep hE' HB13.out.c1; have y3 := Ext.keep hE' HG13.out.c0; have y4 := Ext.keep hE' HG13.out.c1; have y5 := Ext.keep hE' hr0'; have y6 := Ext.keep hE' hr1'; have y7 := Ext.keep hE' hr1''; have y8 := Ext.keep hE' hq0; go_simp; try with_reducible rfl)
      try simp only [Act.put, List.setIfInBounds_toArray, List.set_cons_zero, List.set_cons_succ]
      refine wpAnyH_take_dst (i := 36) (v := .bool false) (d := some 91) rfl rfl (by kernel_rfl) (by kernel_rfl) (by kernel_rfl) (fun _ _ _ h => h) (Or.inl ⟨by rfl, ?_⟩) hH ?_
      · (intro w' hE'; (try dsimp only at hE'); have y0 := Ext.keep hE' HY13.out.c0; have y1 := Ext.keep hE' HB13.out.c0; have y2 := Ext.keep hE' HB13.out.c1; have y3 := Ext.keep hE' HG13.out.c0; have y4 := Ext.keep hE' HG13.out.c1; have y5 := Ext.keep hE' hr0'; have y6 := Ext.keep hE' hr1'; have y7 := Ext.keep hE' hr1''; have y8 := Ext.keep hE' hq0; go_simp; try with_reducible rfl)
      try simp only [Act.put, List.setIfInBounds_toArray, List.set_cons_zero, List.set_cons_succ]
      refine wpAnyH_take_dst (i := 37) (v := .bool false) (d := some 92) rfl rfl (by kernel_rfl) (by kernel_rfl) (by kernel_rfl) (fun _ _ _ h => h) (Or.inl ⟨by rfl, ?_⟩) hH ?_
      · (intro w' hE'; (try dsimp only at hE'); have y0 := Ext.keep hE' HY13.out.c0; have y1 := Ext.keep hE' HB13.out.c0; have y2 := Ext.keep hE' HB13.out.c1; have y3 := Ext.keep hE' HG13.out.c0; have y4 := Ext.keep hE' HG13.out.c1; have y5 := Ext.keep hE' hr0'; have y6 := Ext.keep hE' hr1'; have y7 := Ext.keep hE' hr1''; have y8 := Ext.keep hE' hq0; go_simp; try with_reducible rfl)
      try simp only [Act.put, List.setIfInBounds_toArray, List.set_cons_zero, List.set_cons_succ]
      refine wpAnyH_take_dst (i := 38) (v := .bool false) (d := some 93) rfl rfl (by kernel_rfl) (by kernel_rfl) (by kernel_rfl) (fun _ _ _ h => h) (Or.inl ⟨by rfl, ?_⟩) hH ?_
      · (intro w' hE'; (try dsimp only at hE'); have y0 := Ext.keep hE' HY13.out.c0; have y1 := Ext.keep hE' HB13.out.c0; have y2 := Ext.keep hE' HB13.out.c1; have y3 := Ext.keep hE' HG13.out.c0; have y4 := Ext.keep hE' HG13.out.c1; have y5 := Ext.keep hE' hr0'; have y6 := Ext.keep hE' hr1'; have y7 := Ext.keep hE' hr1''; have y8 := Ext.keep hE' hq0; go_simp; try with_reducible rfl)
      try simp only [Act.put, List.setIfInBounds_toArray, List.set_cons_zero, List.set_cons_succ]
      refine wpAnyH_take_dst (i := 39) (v := .pointer (some ⟨q, 1, none⟩)) (d := some 94) rfl rfl (by kernel_rfl) (by kernel_rfl) (by kernel_rfl) (fun _ _ _ h => h) (Or.inl ⟨by rfl, ?_⟩) hH ?_
      · (intro w' hE'; (try dsimp only at hE'); have y0 := Ext.keep hE' HY13.out.c0; have y1 := Ext.keep hE' HB13.out.c0; have y2 := Ext.keep hE' HB13.out.c1; have y3 := Ext.keep hE' HG13.out.c0; have y4 := Ext.keep hE' HG13.out.c1; have y5 := Ext.keep hE' hr0'; have y6 := Ext.keep hE' hr1'; have y7 := Ext.keep hE' hr1''; have y8 := Ext.keep hE' hq0; go_simp; try with_reducible rfl)
      try simp only [Act.put, List.setIfInBounds_toArray, List.set_cons_zero, List.set_cons_succ]
      refine wpAnyH_take_dst (i := 40) (v := .slice FA gg.cf.length fc) (d := some 95) rfl rfl (by kernel_rfl) (by kernel_rfl) (by kernel_rfl) (fun _ _ _ h => h) (Or.inl ⟨by rfl, ?_⟩) hH ?_
      · (intro w' hE'; (try dsimp only at hE'); have y0 := Ext.keep hE' HY13.out.c0; have y1 := Ext.keep hE' HB13.out.c0; have y2 := Ext.keep hE' HB13.out.c1; have y3 := Ext.keep hE' HG13.out.c0; have y4 := Ext.keep hE' HG13.out.c1; have y5 := Ext.keep hE' hr0'; have y6 := Ext.keep hE' hr1'; have y7 := Ext.keep hE' hr1''; have y8 := Ext.keep hE' hq0; go_simp; try with_reducible rfl)
      try simp only [Act.put, List.setIfInBounds_toArray, List.set_cons_zero, List.set_cons_succ]
      refine wpAnyH_take_dst (i := 41) (v := .int .i64 (gg.cf.length : Int)) (d := some 96) rfl rfl (by kernel_rfl) (by kernel_rfl) (by kernel_rfl) (fun _ _ _ h => h) (Or.inl ⟨by rfl, ?_⟩) hH ?_
      · (intro w' hE'; (try dsimp only at hE'); have y0 := Ext.keep hE' HY13.out.c0; have y1 := Ext.keep hE' HB13.out.c0; have y2 := Ext.keep hE' HB13.out.c1; have y3 := Ext.keep hE' HG13.out.c0; have y4 := Ext.keep hE' HG13.out.c1; have y5 := Ext.keep hE' hr0'; have y6 := Ext.keep hE' hr1'; have y7 := Ext.keep hE' hr1''; have y8 := Ext.keep hE' hq0; go_simp; try with_reducible rfl)
      try simp only [Act.put, List.setIfInBounds_toArray, List.set_cons_zero, List.set_cons_succ]
      refine wpAnyH_take_dst (i := 42) (v := .pointer (some ⟨gq, 1, none⟩)) (d := some 97) rfl rfl (by kernel_rfl) (by kernel_rfl) (by kernel_rfl) (fun _ _ _ h => h) (Or.inl ⟨by rfl, ?_⟩) hH ?_
      · (intro w' hE'; (try dsimp only at hE'); have y0 := Ext.keep hE' HY13.out.c0; have y1 := Ext.keep hE' HB13.out.c0; have y2 := Ext.keep hE' HB13.out.c1; have y3 := Ext.keep hE' HG13.out.c0; have y4 := Ext.keep hE' HG13.out.c1; have y5 := Ext.keep hE' hr0'; have y6 := Ext.keep hE' hr1'; have y7 := Ext.keep hE' hr1''; have y8 := Ext.keep hE' hq0; go_simp; try with_reducible rfl)
      try simp only [Act.put, List.setIfInBounds_toArray, List.set_cons_zero, List.set_cons_succ]
      refine wpAnyH_take_dst (i := 43) (v := .slice GA gg.cf.length gc) (d := some 98) rfl rfl (by kernel_rfl) (by kernel_rfl) (by kernel_rfl) (fun _ _ _ h => h) (Or.inl ⟨by rfl, ?_⟩) hH ?_
      · (intro w' hE'; (try dsimp only at hE'); have y0 := Ext.keep hE' HY13.out.c0; have y1 := Ext.keep hE' HB13.out.c0; have y2 := Ext.keep hE' HB13.out.c1; have y3 := Ext.keep hE' HG13.out.c0; have y4 := Ext.keep hE' HG13.out.c1; have y5 := Ext.keep hE' hr0'; have y6 := Ext.keep hE' hr1'; have y7 := Ext.keep hE' hr1''; have y8 := Ext.keep hE' hq0; go_simp; try with_reducible rfl)
      try simp only [Act.put, List.setIfInBounds_toArray, List.set_cons_zero, List.set_cons_succ]
      refine wpAnyH_take_dst (i := 44) (v := .int .i64 (gg.cf.length : Int)) (d := some 99) rfl rfl (by kernel_rfl) (by kernel_rfl) (by kernel_rfl) (fun _ _ _ h => h) (Or.inl ⟨by rfl, ?_⟩) hH ?_
      · (intro w' hE'; (try dsimp only at hE'); have y0 := Ext.keep hE' HY13.out.c0; have y1 := Ext.keep hE' HB13.out.c0; have y2 := Ext.keep hE' HB13.out.c1; have y3 := Ext.keep hE' HG13.out.c0; have y4 := Ext.keep hE' HG13.out.c1; have y5 := Ext.keep hE' hr0'; have y6 := Ext.keep hE' hr1'; have y7 := Ext.keep hE' hr1''; have y8 := Ext.keep hE' hq0; go_simp; try with_reducible rfl)
      try simp only [Act.put, List.setIfInBounds_toArray, List.set_cons_zero, List.set_cons_succ]
      refine wpAnyH_take_dst (i := 45) (v := .bool false) (d := some 100) rfl rfl (by kernel_rfl) (by kernel_rfl) (by kernel_rfl) (fun _ _ _ h => h) (Or.inl ⟨by rfl, ?_⟩) hH ?_
      · (intro w' hE'; (try dsimp only at hE'); have y0 := Ext.keep hE' HY13.out.c0; have y1 := Ext.keep hE' HB13.out.c0; have y2 := Ext.keep hE' HB13.out.c1; have y3 := Ext.keep hE' HG13.out.c0; have y4 := Ext.keep hE' HG13.out.c1; have y5 := Ext.keep hE' hr0'; have y6 := Ext.keep hE' hr1'; have y7 := Ext.keep hE' hr1''; have y8 := Ext.keep hE' hq0; go_simp; try with_reducible rfl)
      try simp only [Act.put, List.setIfInBounds_toArray, List.set_cons_zero, List.set_cons_succ]
      refine wpAnyH_take_dst (i := 46) (v := .bool false) (d := some 101) rfl rfl (by kernel_rfl) (by kernel_rfl) (by kernel_rfl) (fun _ _ _ h => h) (Or.inl ⟨by rfl, ?_⟩) hH ?_
      · (intro w' hE'; (try dsimp only at hE'); have y0 := Ext.keep hE' HY13.out.c0; have y1 := Ext.keep hE' HB13.out.c0; have y2 := Ext.keep hE' HB13.out.c1; have y3 := Ext.keep hE' HG13.out.c0; have y4 := Ext.keep hE' HG13.out.c1; have y5 := Ext.keep hE' hr0'; have y6 := Ext.keep hE' hr1'; have y7 := Ext.keep hE' hr1''; have y8 := Ext.keep hE' hq0; go_simp; try with_reducible rfl)
      try simp only [Act.put, List.setIfInBounds_toArray, List.set_cons_zero, List.set_cons_succ]
      refine wpAnyH_done (by kernel_rfl) ?_ _
      exact ⟨by rfl, hH⟩
    obtain ⟨ha, hE14⟩ := hR
    simp only [Act.put, List.setIfInBounds_toArray, List.set_cons_zero, List.set_cons_succ] at ha
    subst ha
    have HY14 := Lib.hid (HY13.out.ext hE14)
    have HQ14 := Lib.hid (RP.ext HQ13.out hE14)
    have HE14 := Lib.hid (Ext.trans HE13.out hE14)
    have t0 := HY14.out.c0
    have t1 := HY14.out.c1
    clear HY13 HB13 HG13 HQ13 HP13 HM13 HE13 hr0' hr1' hr1'' hq0 hw1 hw2
    go_wp2_with fail
    (with_reducible refine (c_pairsB HY14.out.rd).mono ?_)
    rintro e w15 ⟨LA, n, lc, lb, rfl, hR15, hE15⟩
    have HR15 := Lib.hid hR15
    have hn4 : n ≤ 4194304 := hR15.1.2
    have HY15 := Lib.hid (HY14.out.ext hE15)
    have HQ15 := Lib.hid (RP.ext HQ14.out hE15)
    have HE15 := Lib.hid (Ext.trans HE14.out hE15)
    clear hR15 t0 t1 HY14 HQ14 HE14
    go_wp2_with fail
    go_loopw [15] (fun iv wr => ∃ i : Nat, iv = .int .i64 i ∧ i ≤ n ∧ Ext w15 wr) (fun iv _ => n - (intOf iv).toNat)
    case atStart => exact ⟨0, rfl, Nat.zero_le _, Ext.refl _⟩
    case round =>
      obtain ⟨i, rfl, hi, hE⟩ := hrel
      by_cases hlt : i < n
      · obtain ⟨pq, b, o, A1, n1, c1, A2, n2, c2, hpq, rfl, hc0, hc1, hc2, hc3, hcp1, hcp2, hri1, hri2⟩ := RE.at_ (HR15.out.ext hE) hlt
        have HR1 := Lib.hid hri1
        have HR2 := Lib.hid hri2
        have hki : (i : Int) < (n : Int) := by omega
        have hk0 : (0 : Int) ≤ (i : Int) := by omega
        have HIN := Lib.hid (show i + 1 ≤ n by omega)
        have HYr := Lib.hid (HY15.out.ext hE)
        have HQr := Lib.hid (RP.ext HQ15.out hE)
        have HEr := Lib.hid (Ext.trans HE15.out hE)
        have hbl := World.block_lt_of_cell? wr _ hc0
        obtain ⟨oR, hoR⟩ : ∃ oR, headO arD (pl ++ mk) pq.r = oR := ⟨_, rfl⟩
        obtain ⟨oL, hoL⟩ : ∃ oL, headO arD (pl ++ mk) pq.l = oL := ⟨_, rfl⟩
        obtain ⟨lt, hltq⟩ : ∃ lt, cmpLess oR oL = lt := ⟨_, rfl⟩
        have HOR := Lib.hid hoR
        have HOL := Lib.hid hoL
        have HLT := Lib.hid (show cmpLess (headO arD (pl ++ mk) pq.r) (headO arD (pl ++ mk) pq.l) = lt by rw [hoR, hoL, hltq])
        have HMO := Lib.hid (show lt = true → cmpMost (headO arD (pl ++ mk) pq.r) (headO arD (pl ++ mk) pq.l) = true from fun e => less_mostH (by rw [hoR, hoL, hltq, e]))
        have HSO := Lib.hid (show lt = true → oR.isSome = true ∧ oL.isSome = true ∧ (rp oR).c < (rp oL).c from fun e => less_some (by rw [hltq, e]))
        obtain ⟨xR, hxR⟩ : ∃ x, (rp oR).c = x := ⟨_, rfl⟩
        obtain ⟨lR, hlR⟩ : ∃ x, (rp oR).cf.length = x := ⟨_, rfl⟩
        obtain ⟨bR, hbR⟩ : ∃ x, oR.isSome = x := ⟨_, rfl⟩
        obtain ⟨xL, hxL⟩ : ∃ x, (rp oL).c = x := ⟨_, rfl⟩
        obtain ⟨lL, hlL⟩ : ∃ x, (rp oL).cf.length = x := ⟨_, rfl⟩
        obtain ⟨bL, hbL⟩ : ∃ x, oL.isSome = x := ⟨_, rfl⟩
        rw [hbR, hbL, hxR, hxL] at HSO
        have HNR := Lib.hid (And.intro hxR (And.intro hlR hbR))
        have HNL := Lib.hid (And.intro hxL (And.intro hlL hbL))
        clear hri1 hri2 hpq hoR hoL hltq hxR hlR hbR hxL hlL hbL
        have hErr := hE
        clear hE
        cases lt with
        | false =>
          clear HSO
          go_wp2_with fail
          refine wp_only (R := fun (a0 : Act) (a8 : Act) (w9 : World) => a8 = (((((((((((((((((((a0.put (some 113) (.pointer (some ⟨p, 0, none⟩))).put (some 114) (.agg #[.slice AS 3 cS])).put (some 115) (.slice AQ 6 cQ)).put (some 116) (.slice (some ⟨b, o, none⟩) n lc)).put (some 117) (.int .i64 (i : Int))).put (some 118) (.pointer (some ⟨b, o + i * 4, none⟩))).put (some 119) (.agg #[.slice A1 n1 c1, .slice A2 n2 c2, .int .i64 pq.rule, .int .i64 pq.at_])).put (some 120) (.bool false)).put (some 121) (.bool false)).put (some 122) (undef)).put (some 123) (undef)).put (some 124) (undef)).put (some 125) (undef)).put (some 126) (undef)).put (some 127) (undef)).put (some 128) (undef)).put (some 129) (undef)).put (some 130) (undef)).put (some 131) (.bool false)) ∧ Ext wr w9) ?_ (fun a8 w16 hR => ?_)
          · refine wp_region_held_drew (S := (fun w' => Ext wr w')) (by kernel_rfl) ((Ext.refl wr).drew) (fun hH => ?_)
            refine wpAnyH_take_dst (i := 0) (v := .pointer (some ⟨p, 0, none⟩)) (d := some 113) rfl rfl (by kernel_rfl) (by kernel_rfl) (by kernel_rfl) (fun _ _ _ h => h) (Or.inl ⟨by rfl, ?_⟩) hH ?_
            · (intro w' hE'; (try dsimp only at hE'); have y0 := Ext.keep hE' HYr.out.c0; have y1 := Ext.keep hE' hc0; have y2 := Ext.keep hE' hc1; have y3 := Ext.keep hE' hc2; have y4 := Ext.keep hE' hc3; go_simp; try with_reducible rfl)
            try simp only [Act.put, List.setIfInBounds_toArray, List.set_cons_zero, List.set_cons_succ]
            refine wpAnyH_take_dst (i := 1) (v := .agg #[.slice AS 3 cS]) (d := some 114) rfl rfl (by kernel_rfl) (by kernel_rfl) (by kernel_rfl) (fun _ _ _ h => h) (Or.inl ⟨by rfl, ?_⟩) hH ?_
            · (intro w' hE'; (try dsimp only at hE'); have y0 := Ext.keep hE' HYr.out.c0; have y1 := Ext.keep hE' hc0; have y2 := Ext.keep hE' hc1; have y3 := Ext.keep hE' hc2; have y4 := Ext.keep hE' hc3; go_simp; try with_reducible rfl)
            try simp only [Act.put, List.setIfInBounds_toArray, List.set_cons_zero, List.set_cons_succ]
            refine wpAnyH_take_dst (i := 2) (v := .slice AQ 6 cQ) (d := some 115) rfl rfl (by kernel_rfl) (by kernel_rfl) (by kernel_rfl) (fun _ _ _ h => h) (Or.inl ⟨by rfl, ?_⟩) hH ?_
            · (intro w' hE'; (try dsimp only at hE'); have y0 := Ext.keep hE' HYr.out.c0; have y1 := Ext.keep hE' hc0; have y2 := Ext.keep hE' hc1; have y3 := Ext.keep hE' hc2; have y4 := Ext.keep hE' hc3; go_simp; try with_reducible rfl)
            try simp only [Act.put, List.setIfInBounds_toArray, List.set_cons_zero, List.set_cons_succ]
            refine wpAnyH_take_dst (i := 3) (v := .slice (some ⟨b, o, none⟩) n lc) (d := some 116) rfl rfl (by kernel_rfl) (by kernel_rfl) (by kernel_rfl) (fun _ _ _ h => h) (Or.inl ⟨by rfl, ?_⟩) hH ?_
            · (intro w' hE'; (try dsimp only at hE'); have y0 := Ext.keep hE' HYr.out.c0; have y1 := Ext.keep hE' hc0; have y2 := Ext.keep hE' hc1; have y3 := Ext.keep hE' hc2; have y4 := Ext.keep hE' hc3; go_simp; try with_reducible rfl)
            try simp only [Act.put, List.setIfInBounds_toArray, List.set_cons_zero, List.set_cons_succ]
            refine wpAnyH_take_dst (i := 4) (v := .int .i64 (i : Int)) (d := some 117) rfl rfl (by kernel_rfl) (by kernel_rfl) (by kernel_rfl) (fun _ _ _ h => h) (Or.inl ⟨by rfl, ?_⟩) hH ?_
            · (intro w' hE'; (try dsimp only at hE'); have y0 := Ext.keep hE' HYr.out.c0; have y1 := Ext.keep hE' hc0; have y2 := Ext.keep hE' hc1; have y3 := Ext.keep hE' hc2; have y4 := Ext.keep hE' hc3; go_simp; try with_reducible rfl)
            try simp only [Act.put, List.setIfInBounds_toArray, List.set_cons_zero, List.set_cons_succ]
            refine wpAnyH_take_dst (i := 5) (v := .pointer (some ⟨b, o + i * 4, none⟩)) (d := some 118) rfl rfl (by kernel_rfl) (by kernel_rfl) (by kernel_rfl) (fun _ _ _ h => h) (Or.inl ⟨by rfl, ?_⟩) hH ?_
            · (intro w' hE'; (try dsimp only at hE'); have y0 := Ext.keep hE' HYr.out.c0; have y1 := Ext.keep hE' hc0; have y2 := Ext.keep hE' hc1; have y3 := Ext.keep hE' hc2; have y4 := Ext.keep hE' hc3; go_simp; try with_reducible rfl)
            try simp only [Act.put, List.setIfInBounds_toArray, List.set_cons_zero, List.set_cons_succ]
            refine wpAnyH_take_dst (i := 6) (v := .agg #[.slice A1 n1 c1, .slice A2 n2 c2, .int .i64 pq.rule, .int .i64 pq.at_]) (d := some 119) rfl rfl (by kernel_rfl) (by kernel_rfl) (by kernel_rfl) (fun _ _ _ h => h) (Or.inl ⟨by rfl, ?_⟩) hH ?_
            · (intro w' hE'; (try dsimp only at hE'); have y0 := Ext.keep hE' HYr.out.c0; have y1 := Ext.keep hE' hc0; have y2 := Ext.keep hE' hc1; have y3 := Ext.keep hE' hc2; have y4 := Ext.keep hE' hc3; go_simp; try with_reducible rfl)
            try simp only [Act.put, List.setIfInBounds_toArray, List.set_cons_zero, List.set_cons_succ]
            refine wpAnyH_ready (rs := [7]) (by kernel_rfl) (by simp) ?_
            refine AllReadyH.cons rfl (fun K hK => ?_) AllReadyH.nil
            rw [if_pos (by rfl)]
            go_wp2_with fail
            (with_reducible refine (c_pairLessB HLT.out (HYr.out.ext hH).sig (RdPc.mkc hcapQ.1 hcapQ.2 (RP.ext HQr.out hH)) (RdDp.mk hcp1 hcp2 (RI.ext HR1.out hH) (RI.ext HR2.out hH))).mono ?_)
            rintro e w9 ⟨rfl, hE9⟩
            refine hK.out _ _ (Ext.trans hH hE9) (fun hH9 => ?_)
            clear hK; have hH0 := hH; clear hH; have hH := hH9; clear hH9
            try simp only [Act.put, List.setIfInBounds_toArray, List.set_cons_zero, List.set_cons_succ]
            refine wpAnyH_take_dst (i := 8) (v := .bool false) (d := some 121) rfl rfl (by kernel_rfl) (by kernel_rfl) (by kernel_rfl) (fun _ _ _ h => h) (Or.inl ⟨by rfl, ?_⟩) hH ?_
            · (intro w' hE'; (try dsimp only at hE'); have y0 := Ext.keep hE' HYr.out.c0; have y1 := Ext.keep hE' hc0; have y2 := Ext.keep hE' hc1; have y3 := Ext.keep hE' hc2; have y4 := Ext.keep hE' hc3; go_simp; try with_reducible rfl)
            try simp only [Act.put, List.setIfInBounds_toArray, List.set_cons_zero, List.set_cons_succ]
            refine wpAnyH_take_dst (i := 9) (v := undef) (d := some 122) rfl rfl (by kernel_rfl) (by kernel_rfl) (by kernel_rfl) (fun _ _ _ h => h) (Or.inr ⟨by rfl, rfl⟩) hH ?_
            try simp only [Act.put, List.setIfInBounds_toArray, List.set_cons_zero, List.set_cons_succ]
            refine wpAnyH_take_dst (i := 10) (v := undef) (d := some 123) rfl rfl (by kernel_rfl) (by kernel_rfl) (by kernel_rfl) (fun _ _ _ h => h) (Or.inr ⟨by rfl, rfl⟩) hH ?_
            try simp only [Act.put, List.setIfInBounds_toArray, List.set_cons_zero, List.set_cons_succ]
            refine wpAnyH_take_dst (i := 11) (v := undef) (d := some 124) rfl rfl (by kernel_rfl) (by kernel_rfl) (by kernel_rfl) (fun _ _ _ h => h) (Or.inr ⟨by rfl, rfl⟩) hH ?_
            try simp only [Act.put, List.setIfInBounds_toArray, List.set_cons_zero, List.set_cons_succ]
            refine wpAnyH_take_dst (i := 12) (v := undef) (d := some 125) rfl rfl (by kernel_rfl) (by kernel_rfl) (by kernel_rfl) (fun _ _ _ h => h) (Or.inr ⟨by rfl, rfl⟩) hH ?_
            try simp only [Act.put, List.setIfInBounds_toArray, List.set_cons_zero, List.set_cons_succ]
            refine wpAnyH_take_dst (i := 13) (v := undef) (d := some 126) rfl rfl (by kernel_rfl) (by kernel_rfl) (by kernel_rfl) (fun _ _ _ h => h) (Or.inr ⟨by rfl, rfl⟩) hH ?_
            try simp only [Act.put, List.setIfInBounds_toArray, List.set_cons_zero, List.set_cons_succ]
            refine wpAnyH_take_dst (i := 14) (v := undef) (d := some 127) rfl rfl (by kernel_rfl) (by kernel_rfl) (by kernel_rfl) (fun _ _ _ h => h) (Or.inr ⟨by rfl, rfl⟩) hH ?_
            try simp only [Act.put, List.setIfInBounds_toArray, List.set_cons_zero, List.set_cons_succ]
            refine wpAnyH_take_dst (i := 15) (v := undef) (d := some 128) rfl rfl (by kernel_rfl) (by kernel_rfl) (by kernel_rfl) (fun _ _ _ h => h) (Or.inr ⟨by rfl, rfl⟩) hH ?_
            try simp only [Act.put, List.setIfInBounds_toArray, List.set_cons_zero, List.set_cons_succ]
            refine wpAnyH_take_dst (i := 16) (v := undef) (d := some 129) rfl rfl (by kernel_rfl) (by kernel_rfl) (by kernel_rfl) (fun _ _ _ h => h) (Or.inr ⟨by rfl, rfl⟩) hH ?_
            try simp only [Act.put, List.setIfInBounds_toArray, List.set_cons_zero, List.set_cons_succ]
            refine wpAnyH_take_dst (i := 17) (v := undef) (d := some 130) rfl rfl (by kernel_rfl) (by kernel_rfl) (by kernel_rfl) (fun _ _ _ h => h) (Or.inr ⟨by rfl, rfl⟩) hH ?_
            try simp only [Act.put, List.setIfInBounds_toArray, List.set_cons_zero, List.set_cons_succ]
            refine wpAnyH_take_dst (i := 18) (v := .bool false) (d := some 131) rfl rfl (by kernel_rfl) (by kernel_rfl) (by kernel_rfl) (fun _ _ _ h => h) (Or.inl ⟨by rfl, ?_⟩) hH ?_
            · (intro w' hE'; (try dsimp only at hE'); have y0 := Ext.keep hE' HYr.out.c0; have y1 := Ext.keep hE' hc0; have y2 := Ext.keep hE' hc1; have y3 := Ext.keep hE' hc2; have y4 := Ext.keep hE' hc3; go_simp; try with_reducible rfl)
            try simp only [Act.put, List.setIfInBounds_toArray, List.set_cons_zero, List.set_cons_succ]
            refine wpAnyH_done (by kernel_rfl) ?_ _
            exact ⟨by rfl, hH⟩
          obtain ⟨ha, hE16⟩ := hR
          simp only [Act.put, List.setIfInBounds_toArray, List.set_cons_zero, List.set_cons_succ] at ha
          subst ha
          have HYs := Lib.hid (HYr.out.ext hE16)
          have HQs := Lib.hid (RP.ext HQr.out hE16)
          have HEs := Lib.hid (Ext.trans HEr.out hE16)
          have HR3 := Lib.hid (RI.ext HR1.out hE16)
          have HR4 := Lib.hid (RI.ext HR2.out hE16)
          have hd0 := Ext.keep hE16 hc0
          have hd1x := Ext.keep hE16 hc1
          have hd2x := Ext.keep hE16 hc2
          have hd3x := Ext.keep hE16 hc3
          have hbl16 := World.block_lt_of_cell? w16 _ hd0
          clear HYr HQr HEr HR1 HR2 hc0 hc1 hc2 hc3
          go_wp2_with fail
          refine wp_only (R := fun (a0 : Act) (a8 : Act) (w9 : World) => ∃ (q1 : Nat) (FB : Option Addr) (fd : Nat), a8 = ((((((((((((((a0.put (some 133) (.pointer (some ⟨p, 0, none⟩))).put (some 134) (.agg #[.slice AS 3 cS])).put (some 135) (.slice AQ 6 cQ)).put (some 136) (.slice (some ⟨b, o, none⟩) n lc)).put (some 137) (.int .i64 (i : Int))).put (some 138) (.pointer (some ⟨b, o + i * 4, none⟩))).put (some 139) (.pointer (some ⟨b, o + i * 4 + 1, none⟩))).put (some 140) (.slice A2 n2 c2)).put (some 141) (.tuple #[.agg #[.int .i64 xR, .slice FB lR fd], .bool bR])).put (some 132) (.tuple #[.agg #[.int .i64 xR, .slice FB lR fd], .bool bR])).put (some 142) (.agg #[.int .i64 xR, .slice FB lR fd])).put (some 143) (.bool bR)).put (some 16) (.pointer (some ⟨q1, 0, none⟩))).put (some 17) (.bool bR)) ∧ Bx w9 q1 (.int .i64 xR) (.slice FB lR fd) ∧ Ext w16 w9) ?_ (fun a8 w17 hR => ?_)
          · refine wp_region_held_drew (S := (fun w' => Ext w16 w')) (by kernel_rfl) ((Ext.refl w16).drew) (fun hH => ?_)
            refine wpAnyH_take_dst (i := 0) (v := .pointer (some ⟨p, 0, none⟩)) (d := some 133) rfl rfl (by kernel_rfl) (by kernel_rfl) (by kernel_rfl) (fun _ _ _ h => h) (Or.inl ⟨by rfl, ?_⟩) hH ?_
            · (intro w' hE'; (try dsimp only at hE'); have y0 := Ext.keep hE' HYs.out.c0; have y1 := Ext.keep hE' hd0; have y2 := Ext.keep hE' hd1x; have y3 := Ext.keep hE' hd2x; have y4 := Ext.keep hE' hd3x; go_simp; try with_reducible rfl)
            try simp only [Act.put, List.setIfInBounds_toArray, List.set_cons_zero, List.set_cons_succ]
            refine wpAnyH_take_dst (i := 1) (v := .agg #[.slice AS 3 cS]) (d := some 134) rfl rfl (by kernel_rfl) (by kernel_rfl) (by kernel_rfl) (fun _ _ _ h => h) (Or.inl ⟨by rfl, ?_⟩) hH ?_
            · (intro w' hE'; (try dsimp only at hE'); have y0 := Ext.keep hE' HYs.out.c0; have y1 := Ext.keep hE' hd0; have y2 := Ext.keep hE' hd1x; have y3 := Ext.keep hE' hd2x; have y4 := Ext.keep hE' hd3x; go_simp; try with_reducible rfl)
            try simp only [Act.put, List.setIfInBounds_toArray, List.set_cons_zero, List.set_cons_succ]
            refine wpAnyH_take_dst (i := 2) (v := .slice AQ 6 cQ) (d := some 135) rfl rfl (by kernel_rfl) (by kernel_rfl) (by kernel_rfl) (fun _ _ _ h => h) (Or.inl ⟨by rfl, ?_⟩) hH ?_
            · (intro w' hE'; (try dsimp only at hE'); have y0 := Ext.keep hE' HYs.out.c0; have y1 := Ext.keep hE' hd0; have y2 := Ext.keep hE' hd1x; have y3 := Ext.keep hE' hd2x; have y4 := Ext.keep hE' hd3x; go_simp; try with_reducible rfl)
            try simp only [Act.put, List.setIfInBounds_toArray, List.set_cons_zero, List.set_cons_succ]
            refine wpAnyH_take_dst (i := 3) (v := .slice (some ⟨b, o, none⟩) n lc) (d := some 136) rfl rfl (by kernel_rfl) (by kernel_rfl) (by kernel_rfl) (fun _ _ _ h => h) (Or.inl ⟨by rfl, ?_⟩) hH ?_
            · (intro w' hE'; (try dsimp only at hE'); have y0 := Ext.keep hE' HYs.out.c0; have y1 := Ext.keep hE' hd0; have y2 := Ext.keep hE' hd1x; have y3 := Ext.keep hE' hd2x; have y4 := Ext.keep hE' hd3x; go_simp; try with_reducible rfl)
            try simp only [Act.put, List.setIfInBounds_toArray, List.set_cons_zero, List.set_cons_succ]
            refine wpAnyH_take_dst (i := 4) (v := .int .i64 (i : Int)) (d := some 137) rfl rfl (by kernel_rfl) (by kernel_rfl) (by kernel_rfl) (fun _ _ _ h => h) (Or.inl ⟨by rfl, ?_⟩) hH ?_
            · (intro w' hE'; (try dsimp only at hE'); have y0 := Ext.keep hE' HYs.out.c0; have y1 := Ext.keep hE' hd0; have y2 := Ext.keep hE' hd1x; have y3 := Ext.keep hE' hd2x; have y4 := Ext.keep hE' hd3x; go_simp; try with_reducible rfl)
            try simp only [Act.put, List.setIfInBounds_toArray, List.set_cons_zero, List.set_cons_succ]
            refine wpAnyH_take_dst (i := 5) (v := .pointer (some ⟨b, o + i * 4, none⟩)) (d := some 138) rfl rfl (by kernel_rfl) (by kernel_rfl) (by kernel_rfl) (fun _ _ _ h => h) (Or.inl ⟨by rfl, ?_⟩) hH ?_
            · (intro w' hE'; (try dsimp only at hE'); have y0 := Ext.keep hE' HYs.out.c0; have y1 := Ext.keep hE' hd0; have y2 := Ext.keep hE' hd1x; have y3 := Ext.keep hE' hd2x; have y4 := Ext.keep hE' hd3x; go_simp; try with_reducible rfl)
            try simp only [Act.put, List.setIfInBounds_toArray, List.set_cons_zero, List.set_cons_succ]
            refine wpAnyH_take_dst (i := 6) (v := .pointer (some ⟨b, o + i * 4 + 1, none⟩)) (d := some 139) rfl rfl (by kernel_rfl) (by kernel_rfl) (by kernel_rfl) (fun _ _ _ h => h) (Or.inl ⟨by rfl, ?_⟩) hH ?_
            · (intro w' hE'; (try dsimp only at hE'); have y0 := Ext.keep hE' HYs.out.c0; have y1 := Ext.keep hE' hd0; have y2 := Ext.keep hE' hd1x; have y3 := Ext.keep hE' hd2x; have y4 := Ext.keep hE' hd3x; go_simp; try with_reducible rfl)
            try simp only [Act.put, List.setIfInBounds_toArray, List.set_cons_zero, List.set_cons_succ]
            refine wpAnyH_take_dst (i := 7) (v := .slice A2 n2 c2) (d := some 140) rfl rfl (by kernel_rfl) (by kernel_rfl) (by kernel_rfl) (fun _ _ _ h => h) (Or.inl ⟨by rfl, ?_⟩) hH ?_
            · (intro w' hE'; (try dsimp only at hE'); have y0 := Ext.keep hE' HYs.out.c0; have y1 := Ext.keep hE' hd0; have y2 := Ext.keep hE' hd1x; have y3 := Ext.keep hE' hd2x; have y4 := Ext.keep hE' hd3x; go_simp; try with_reducible rfl)
            try simp only [Act.put, List.setIfInBounds_toArray, List.set_cons_zero, List.set_cons_succ]
            refine wpAnyH_ready (rs := [8, 12]) (by kernel_rfl) (by simp) ?_
            refine AllReadyH.cons rfl (fun K hK => ?_) (AllReadyH.cons rfl (fun K hK => ?_) (AllReadyH.nil))
            · rw [if_pos (by rfl)]
              go_wp2_with fail
              (with_reducible refine (c_sHeadB HOR.out HNR.out.1 HNR.out.2.1 HNR.out.2.2 (HYs.out.ext hH).sig (RdPc.mkc hcapQ.1 hcapQ.2 (RP.ext HQs.out hH)) (RdIc.mk hcp2 (RI.ext HR4.out hH))).mono ?_)
              rintro e w9 ⟨FB, fd, rfl, hE8⟩
              refine hK.out _ _ (Ext.trans hH hE8) (fun hH9 => ?_)
              clear hK; have hH0 := hH; clear hH; have hH := hH9; clear hH9
              try simp only [Act.put, List.setIfInBounds_toArray, List.set_cons_zero, List.set_cons_succ]
              refine wpAnyH_take_dst (i := 9) (v := .tuple #[.agg #[.int .i64 xR, .slice FB lR fd], .bool bR]) (d := some 132) rfl rfl (by kernel_rfl) (by kernel_rfl) (by kernel_rfl) (fun _ _ _ h => h) (Or.inl ⟨by rfl, ?_⟩) hH ?_
              · (intro w' hE'; (try dsimp only at hE'); have y0 := Ext.keep hE' HYs.out.c0; have y1 := Ext.keep hE' hd0; have y2 := Ext.keep hE' hd1x; have y3 := Ext.keep hE' hd2x; have y4 := Ext.keep hE' hd3x; go_simp; try with_reducible rfl)
              try simp only [Act.put, List.setIfInBounds_toArray, List.set_cons_zero, List.set_cons_succ]
              refine wpAnyH_take_dst (i := 10) (v := .agg #[.int .i64 xR, .slice FB lR fd]) (d := some 142) rfl rfl (by kernel_rfl) (by kernel_rfl) (by kernel_rfl) (fun _ _ _ h => h) (Or.inl ⟨by rfl, ?_⟩) hH ?_
              · (intro w' hE'; (try dsimp only at hE'); have y0 := Ext.keep hE' HYs.out.c0; have y1 := Ext.keep hE' hd0; have y2 := Ext.keep hE' hd1x; have y3 := Ext.keep hE' hd2x; have y4 := Ext.keep hE' hd3x; go_simp; try with_reducible rfl)
              try simp only [Act.put, List.setIfInBounds_toArray, List.set_cons_zero, List.set_cons_succ]
              refine wpAnyH_take_dst (i := 11) (v := .bool bR) (d := some 143) rfl rfl (by kernel_rfl) (by kernel_rfl) (by kernel_rfl) (fun _ _ _ h => h) (Or.inl ⟨by rfl, ?_⟩) hH ?_
              · (intro w' hE'; (try dsimp only at hE'); have y0 := Ext.keep hE' HYs.out.c0; have y1 := Ext.keep hE' hd0; have y2 := Ext.keep hE' hd1x; have y3 := Ext.keep hE' hd2x; have y4 := Ext.keep hE' hd3x; go_simp; try with_reducible rfl)
              try simp only [Act.put, List.setIfInBounds_toArray, List.set_cons_zero, List.set_cons_succ]
              refine wpAnyH_ready (rs := [12]) (by kernel_rfl) (by simp) ?_
              refine AllReadyH.cons rfl (fun K hK => ?_) AllReadyH.nil
              rw [if_pos (by rfl)]
              have hB := bx_of hH; go_wp2_with fail
              refine hK.out _ _ (hH.alloc _) (fun hH9 => ?_)
              clear hK; have hH0 := hH; clear hH; have hH := hH9; clear hH9
              try simp only [Act.put, List.setIfInBounds_toArray, List.set_cons_zero, List.set_cons_succ]
              refine wpAnyH_ready (rs := [13]) (by kernel_rfl) (by simp) ?_
              refine AllReadyH.cons rfl (fun K hK => ?_) AllReadyH.nil
              rw [if_pos (by rfl)]
              go_wp2_with fail
              refine hK.out _ _ (hH0.alloc _) (fun hH9 => ?_)
              clear hK; have hH0 := hH; clear hH; have hH := hH9; clear hH9
              try simp only [Act.put, List.setIfInBounds_toArray, List.set_cons_zero, List.set_cons_succ]
              refine wpAnyH_take_dst (i := 14) (v := .bool bR) (d := some 17) rfl rfl (by kernel_rfl) (by kernel_rfl) (by kernel_rfl) (fun _ _ _ h => h) (Or.inl ⟨by rfl, ?_⟩) hH ?_
              · (intro w' hE'; (try dsimp only at hE'); have y0 := Ext.keep hE' HYs.out.c0; have y1 := Ext.keep hE' hd0; have y2 := Ext.keep hE' hd1x; have y3 := Ext.keep hE' hd2x; have y4 := Ext.keep hE' hd3x; go_simp; try with_reducible rfl)
              try simp only [Act.put, List.setIfInBounds_toArray, List.set_cons_zero, List.set_cons_succ]
              refine wpAnyH_done (by kernel_rfl) ?_ _
              exact ⟨w9.heap.size, FB, fd, by rfl, Bx.new _ _ _ _ rfl, hH⟩
            · rw [if_pos (by rfl)]
              have hB := bx_of hH; go_wp2_with fail
              refine hK.out _ _ (hH.alloc _) (fun hH9 => ?_)
              clear hK; have hH0 := hH; clear hH; have hH := hH9; clear hH9
              try simp only [Act.put, List.setIfInBounds_toArray, List.set_cons_zero, List.set_cons_succ]
              refine wpAnyH_ready (rs := [8]) (by kernel_rfl) (by simp) ?_
              refine AllReadyH.cons rfl (fun K hK => ?_) AllReadyH.nil
              rw [if_pos (by rfl)]
              go_wp2_with fail
              (with_reducible refine (c_sHeadB HOR.out HNR.out.1 HNR.out.2.1 HNR.out.2.2 (HYs.out.ext hH).sig (RdPc.mkc hcapQ.1 hcapQ.2 (RP.ext HQs.out hH)) (RdIc.mk hcp2 (RI.ext HR4.out hH))).mono ?_)
              rintro e w9 ⟨FB, fd, rfl, hE8⟩
              refine hK.out _ _ (Ext.trans hH hE8) (fun hH9 => ?_)
              clear hK; have hH0 := hH; clear hH; have hH := hH9; clear hH9
              try simp only [Act.put, List.setIfInBounds_toArray, List.set_cons_zero, List.set_cons_succ]
              refine wpAnyH_take_dst (i := 9) (v := .tuple #[.agg #[.int .i64 xR, .slice FB lR fd], .bool bR]) (d := some 132) rfl rfl (by kernel_rfl) (by kernel_rfl) (by kernel_rfl) (fun _ _ _ h => h) (Or.inl ⟨by rfl, ?_⟩) hH ?_
              · (intro w' hE'; (try dsimp only at hE'); have y0 := Ext.keep hE' HYs.out.c0; have y1 := Ext.keep hE' hd0; have y2 := Ext.keep hE' hd1x; have y3 := Ext.keep hE' hd2x; have y4 := Ext.keep hE' hd3x; go_simp; try with_reducible rfl)
              try simp only [Act.put, List.setIfInBounds_toArray, List.set_cons_zero, List.set_cons_succ]
              refine wpAnyH_take_dst (i := 10) (v := .agg #[.int .i64 xR, .slice FB lR fd]) (d := some 142) rfl rfl (by kernel_rfl) (by kernel_rfl) (by kernel_rfl) (fun _ _ _ h => h) (Or.inl ⟨by rfl, ?_⟩) hH ?_
              · (intro w' hE'; (try dsimp only at hE'); have y0 := Ext.keep hE' HYs.out.c0; have y1 := Ext.keep hE' hd0; have y2 := Ext.keep hE' hd1x; have y3 := Ext.keep hE' hd2x; have y4 := Ext.keep hE' hd3x; go_simp; try with_reducible rfl)
              try simp only [Act.put, List.setIfInBounds_toArray, List.set_cons_zero, List.set_cons_succ]
              refine wpAnyH_take_dst (i := 11) (v := .bool bR) (d := some 143) rfl rfl (by kernel_rfl) (by kernel_rfl) (by kernel_rfl) (fun _ _ _ h => h) (Or.inl ⟨by rfl, ?_⟩) hH ?_
              · (intro w' hE'; (try dsimp only at hE'); have y0 := Ext.keep hE' HYs.out.c0; have y1 := Ext.keep hE' hd0; have y2 := Ext.keep hE' hd1x; have y3 := Ext.keep hE' hd2x; have y4 := Ext.keep hE' hd3x; go_simp; try with_reducible rfl)
              try simp only [Act.put, List.setIfInBounds_toArray, List.set_cons_zero, List.set_cons_succ]
              refine wpAnyH_ready (rs := [13]) (by kernel_rfl) (by simp) ?_
              refine AllReadyH.cons rfl (fun K hK => ?_) AllReadyH.nil
              rw [if_pos (by rfl)]
              obtain ⟨hb0, hge⟩ := hB w16.heap.size (by go_size); have hb := Bx.ext hb0 hE8; have k0 := hb.c0; have k1 := hb.c1; have kf := hb.fr; go_wp2_with fail
              refine hK.out _ _ ((hH.set hge _).set hge _) (fun hH9 => ?_)
              clear hK; have hH0 := hH; clear hH; have hH := hH9; clear hH9
              try simp only [Act.put, List.setIfInBounds_toArray, List.set_cons_zero, List.set_cons_succ]
              refine wpAnyH_take_dst (i := 14) (v := .bool bR) (d := some 17) rfl rfl (by kernel_rfl) (by kernel_rfl) (by kernel_rfl) (fun _ _ _ h => h) (Or.inl ⟨by rfl, ?_⟩) hH ?_
              · (intro w' hE'; (try dsimp only at hE'); have y0 := Ext.keep hE' HYs.out.c0; have y1 := Ext.keep hE' hd0; have y2 := Ext.keep hE' hd1x; have y3 := Ext.keep hE' hd2x; have y4 := Ext.keep hE' hd3x; go_simp; try with_reducible rfl)
              try simp only [Act.put, List.setIfInBounds_toArray, List.set_cons_zero, List.set_cons_succ]
              refine wpAnyH_done (by kernel_rfl) ?_ _
              exact ⟨_, FB, fd, by rfl, Bx.put hb _ _, hH⟩
          obtain ⟨q1, FB, fd, ha, ⟨hB17, hE17⟩⟩ := hR
          simp only [Act.put, List.setIfInBounds_toArray, List.set_cons_zero, List.set_cons_succ] at ha
          subst ha
          have HYt := Lib.hid (HYs.out.ext hE17)
          have HQt := Lib.hid (RP.ext HQs.out hE17)
          have HEt := Lib.hid (Ext.trans HEs.out hE17)
          have HB17 := Lib.hid hB17
          have HR5 := Lib.hid (RI.ext HR3.out hE17)
          have HR6 := Lib.hid (RI.ext HR4.out hE17)
          have he0 := Ext.keep hE17 hd0
          have he1 := Ext.keep hE17 hd1x
          have he2 := Ext.keep hE17 hd2x
          have he3 := Ext.keep hE17 hd3x
          have hbl17 := World.block_lt_of_cell? w17 _ he0
          clear hB17 HYs HQs HEs HR3 HR4 hd0 hd1x hd2x hd3x
          go_wp2_with fail
          refine wp_only (R := fun (a0 : Act) (a8 : Act) (w9 : World) => ∃ (q2 : Nat) (FB : Option Addr) (fd : Nat), a8 = ((((((((((((((a0.put (some 145) (.pointer (some ⟨p, 0, none⟩))).put (some 146) (.agg #[.slice AS 3 cS])).put (some 147) (.slice AQ 6 cQ)).put (some 148) (.slice (some ⟨b, o, none⟩) n lc)).put (some 149) (.int .i64 (i : Int))).put (some 150) (.pointer (some ⟨b, o + i * 4, none⟩))).put (some 151) (.pointer (some ⟨b, o + i * 4, none⟩))).put (some 152) (.slice A1 n1 c1)).put (some 153) (.tuple #[.agg #[.int .i64 xL, .slice FB lL fd], .bool bL])).put (some 144) (.tuple #[.agg #[.int .i64 xL, .slice FB lL fd], .bool bL])).put (some 154) (.agg #[.int .i64 xL, .slice FB lL fd])).put (some 155) (.bool bL)).put (some 18) (.pointer (some ⟨q2, 0, none⟩))).put (some 19) (.bool bL)) ∧ Bx w9 q2 (.int .i64 xL) (.slice FB lL fd) ∧ Ext w17 w9) ?_ (fun a8 w18 hR => ?_)
          · refine wp_region_held_drew (S := (fun w' => Ext w17 w')) (by kernel_rfl) ((Ext.refl w17).drew) (fun hH => ?_)
            refine wpAnyH_take_dst (i := 0) (v := .pointer (some ⟨p, 0, none⟩)) (d := some 145) rfl rfl (by kernel_rfl) (by kernel_rfl) (by kernel_rfl) (fun _ _ _ h => h) (Or.inl ⟨by rfl, ?_⟩) hH ?_
            · (intro w' hE'; (try dsimp only at hE'); have y0 := Ext.keep hE' HYt.out.c0; have y1 := Ext.keep hE' he0; have y2 := Ext.keep hE' he1; have y3 := Ext.keep hE' he2; have y4 := Ext.keep hE' he3; go_simp; try with_reducible rfl)
            try simp only [Act.put, List.setIfInBounds_toArray, List.set_cons_zero, List.set_cons_succ]
            refine wpAnyH_take_dst (i := 1) (v := .agg #[.slice AS 3 cS]) (d := some 146) rfl rfl (by kernel_rfl) (by kernel_rfl) (by kernel_rfl) (fun _ _ _ h => h) (Or.inl ⟨by rfl, ?_⟩) hH ?_
            · (intro w' hE'; (try dsimp only at hE'); have y0 := Ext.keep hE' HYt.out.c0; have y1 := Ext.keep hE' he0; have y2 := Ext.keep hE' he1; have y3 := Ext.keep hE' he2; have y4 := Ext.keep hE' he3; go_simp; try with_reducible rfl)
            try simp only [Act.put, List.setIfInBounds_toArray, List.set_cons_zero, List.set_cons_succ]
            refine wpAnyH_take_dst (i := 2) (v := .slice AQ 6 cQ) (d := some 147) rfl rfl (by kernel_rfl) (by kernel_rfl) (by kernel_rfl) (fun _ _ _ h => h) (Or.inl ⟨by rfl, ?_⟩) hH ?_
            · (intro w' hE'; (try dsimp only at hE'); have y0 := Ext.keep hE' HYt.out.c0; have y1 := Ext.keep hE' he0; have y2 := Ext.keep hE' he1; have y3 := Ext.keep hE' he2; have y4 := Ext.keep hE' he3; go_simp; try with_reducible rfl)
            try simp only [Act.put, List.setIfInBounds_toArray, List.set_cons_zero, List.set_cons_succ]
            refine wpAnyH_take_dst (i := 3) (v := .slice (some ⟨b, o, none⟩) n lc) (d := some 148) rfl rfl (by kernel_rfl) (by kernel_rfl) (by kernel_rfl) (fun _ _ _ h => h) (Or.inl ⟨by rfl, ?_⟩) hH ?_
            · (intro w' hE'; (try dsimp only at hE'); have y0 := Ext.keep hE' HYt.out.c0; have y1 := Ext.keep hE' he0; have y2 := Ext.keep hE' he1; have y3 := Ext.keep hE' he2; have y4 := Ext.keep hE' he3; go_simp; try with_reducible rfl)
            try simp only [Act.put, List.setIfInBounds_toArray, List.set_cons_zero, List.set_cons_succ]
            refine wpAnyH_take_dst (i := 4) (v := .int .i64 (i : Int)) (d := some 149) rfl rfl (by kernel_rfl) (by kernel_rfl) (by kernel_rfl) (fun _ _ _ h => h) (Or.inl ⟨by rfl, ?_⟩) hH ?_
            · (intro w' hE'; (try dsimp only at hE'); have y0 := Ext.keep hE' HYt.out.c0; have y1 := Ext.keep hE' he0; have y2 := Ext.keep hE' he1; have y3 := Ext.keep hE' he2; have y4 := Ext.keep hE' he3; go_simp; try with_reducible rfl)
            try simp only [Act.put, List.setIfInBounds_toArray, List.set_cons_zero, List.set_cons_succ]
            refine wpAnyH_take_dst (i := 5) (v := .pointer (some ⟨b, o + i * 4, none⟩)) (d := some 150) rfl rfl (by kernel_rfl) (by kernel_rfl) (by kernel_rfl) (fun _ _ _ h => h) (Or.inl ⟨by rfl, ?_⟩) hH ?_
            · (intro w' hE'; (try dsimp only at hE'); have y0 := Ext.keep hE' HYt.out.c0; have y1 := Ext.keep hE' he0; have y2 := Ext.keep hE' he1; have y3 := Ext.keep hE' he2; have y4 := Ext.keep hE' he3; go_simp; try with_reducible rfl)
            try simp only [Act.put, List.setIfInBounds_toArray, List.set_cons_zero, List.set_cons_succ]
            refine wpAnyH_take_dst (i := 6) (v := .pointer (some ⟨b, o + i * 4, none⟩)) (d := some 151) rfl rfl (by kernel_rfl) (by kernel_rfl) (by kernel_rfl) (fun _ _ _ h => h) (Or.inl ⟨by rfl, ?_⟩) hH ?_
            · (intro w' hE'; (try dsimp only at hE'); have y0 := Ext.keep hE' HYt.out.c0; have y1 := Ext.keep hE' he0; have y2 := Ext.keep hE' he1; have y3 := Ext.keep hE' he2; have y4 := Ext.keep hE' he3; go_simp; try with_reducible rfl)
            try simp only [Act.put, List.setIfInBounds_toArray, List.set_cons_zero, List.set_cons_succ]
            refine wpAnyH_take_dst (i := 7) (v := .slice A1 n1 c1) (d := some 152) rfl rfl (by kernel_rfl) (by kernel_rfl) (by kernel_rfl) (fun _ _ _ h => h) (Or.inl ⟨by rfl, ?_⟩) hH ?_
            · (intro w' hE'; (try dsimp only at hE'); have y0 := Ext.keep hE' HYt.out.c0; have y1 := Ext.keep hE' he0; have y2 := Ext.keep hE' he1; have y3 := Ext.keep hE' he2; have y4 := Ext.keep hE' he3; go_simp; try with_reducible rfl)
            try simp only [Act.put, List.setIfInBounds_toArray, List.set_cons_zero, List.set_cons_succ]
            refine wpAnyH_ready (rs := [8, 12]) (by kernel_rfl) (by simp) ?_
            refine AllReadyH.cons rfl (fun K hK => ?_) (AllReadyH.cons rfl (fun K hK => ?_) (AllReadyH.nil))
            · rw [if_pos (by rfl)]
              go_wp2_with fail
              (with_reducible refine (c_sHeadB HOL.out HNL.out.1 HNL.out.2.1 HNL.out.2.2 (HYt.out.ext hH).sig (RdPc.mkc hcapQ.1 hcapQ.2 (RP.ext HQt.out hH)) (RdIc.mk hcp1 (RI.ext HR5.out hH))).mono ?_)
              rintro e w9 ⟨FB, fd, rfl, hE8⟩
              refine hK.out _ _ (Ext.trans hH hE8) (fun hH9 => ?_)
              clear hK; have hH0 := hH; clear hH; have hH := hH9; clear hH9
              try simp only [Act.put, List.setIfInBounds_toArray, List.set_cons_zero, List.set_cons_succ]
              refine wpAnyH_take_dst (i := 9) (v := .tuple #[.agg #[.int .i64 xL, .slice FB lL fd], .bool bL]) (d := some 144) rfl rfl (by kernel_rfl) (by kernel_rfl) (by kernel_rfl) (fun _ _ _ h => h) (Or.inl ⟨by rfl, ?_⟩) hH ?_
              · (intro w' hE'; (try dsimp only at hE'); have y0 := Ext.keep hE' HYt.out.c0; have y1 := Ext.keep hE' he0; have y2 := Ext.keep hE' he1; have y3 := Ext.keep hE' he2; have y4 := Ext.keep hE' he3; go_simp; try with_reducible rfl)
              try simp only [Act.put, List.setIfInBounds_toArray, List.set_cons_zero, List.set_cons_succ]
              refine wpAnyH_take_dst (i := 10) (v := .agg #[.int .i64 xL, .slice FB lL fd]) (d := some 154) rfl rfl (by kernel_rfl) (by kernel_rfl) (by kernel_rfl) (fun _ _ _ h => h) (Or.inl ⟨by rfl, ?_⟩) hH ?_
              · (intro w' hE'; (try dsimp only at hE'); have y0 := Ext.keep hE' HYt.out.c0; have y1 := Ext.keep hE' he0; have y2 := Ext.keep hE' he1; have y3 := Ext.keep hE' he2; have y4 := Ext.keep hE' he3; go_simp; try with_reducible rfl)
              try simp only [Act.put, List.setIfInBounds_toArray, List.set_cons_zero, List.set_cons_succ]
              refine wpAnyH_take_dst (i := 11) (v := .bool bL) (d := some 155) rfl rfl (by kernel_rfl) (by kernel_rfl) (by kernel_rfl) (fun _ _ _ h => h) (Or.inl ⟨by rfl, ?_⟩) hH ?_
              · (intro w' hE'; (try dsimp only at hE'); have y0 := Ext.keep hE' HYt.out.c0; have y1 := Ext.keep hE' he0; have y2 := Ext.keep hE' he1; have y3 := Ext.keep hE' he2; have y4 := Ext.keep hE' he3; go_simp; try with_reducible rfl)
              try simp only [Act.put, List.setIfInBounds_toArray, List.set_cons_zero, List.set_cons_succ]
              refine wpAnyH_ready (rs := [12]) (by kernel_rfl) (by simp) ?_
              refine AllReadyH.cons rfl (fun K hK => ?_) AllReadyH.nil
              rw [if_pos (by rfl)]
              have hB := bx_of hH; go_wp2_with fail
              refine hK.out _ _ (hH.alloc _) (fun hH9 => ?_)
              clear hK; have hH0 := hH; clear hH; have hH := hH9; clear hH9
              try simp only [Act.put, List.setIfInBounds_toArray, List.set_cons_zero, List.set_cons_succ]
              refine wpAnyH_ready (rs := [13]) (by kernel_rfl) (by simp) ?_
              refine AllReadyH.cons rfl (fun K hK => ?_) AllReadyH.nil
              rw [if_pos (by rfl)]
              go_wp2_with fail
              refine hK.out _ _ (hH0.alloc _) (fun hH9 => ?_)
              clear hK; have hH0 := hH; clear hH; have hH := hH9; clear hH9
              try simp only [Act.put, List.setIfInBounds_toArray, List.set_cons_zero, List.set_cons_succ]
              refine wpAnyH_take_dst (i := 14) (v := .bool bL) (d := some 19) rfl rfl (by kernel_rfl) (by kernel_rfl) (by kernel_rfl) (fun _ _ _ h => h) (Or.inl ⟨by rfl, ?_⟩) hH ?_
              · (intro w' hE'; (try dsimp only at hE'); have y0 := Ext.keep hE' HYt.out.c0; have y1 := Ext.keep hE' he0; have y2 := Ext.keep hE' he1; have y3 := Ext.keep hE' he2; have y4 := Ext.keep hE' he3; go_simp; try with_reducible rfl)
              try simp only [Act.put, List.setIfInBounds_toArray, List.set_cons_zero, List.set_cons_succ]
              refine wpAnyH_done (by kernel_rfl) ?_ _
              exact ⟨w9.heap.size, FB, fd, by rfl, Bx.new _ _ _ _ rfl, hH⟩
            · rw [if_pos (by rfl)]
              have hB := bx_of hH; go_wp2_with fail
              refine hK.out _ _ (hH.alloc _) (fun hH9 => ?_)
              clear hK; have hH0 := hH; clear hH; have hH := hH9; clear hH9
              try simp only [Act.put, List.setIfInBounds_toArray, List.set_cons_zero, List.set_cons_succ]
              refine wpAnyH_ready (rs := [8]) (by kernel_rfl) (by simp) ?_
              refine AllReadyH.cons rfl (fun K hK => ?_) AllReadyH.nil
              rw [if_pos (by rfl)]
              go_wp2_with fail
              (with_reducible refine (c_sHeadB HOL.out HNL.out.1 HNL.out.2.1 HNL.out.2.2 (HYt.out.ext hH).sig (RdPc.mkc hcapQ.1 hcapQ.2 (RP.ext HQt.out hH)) (RdIc.mk hcp1 (RI.ext HR5.out hH))).mono ?_)
              rintro e w9 ⟨FB, fd, rfl, hE8⟩
              refine hK.out _ _ (Ext.trans hH hE8) (fun hH9 => ?_)
              clear hK; have hH0 := hH; clear hH; have hH := hH9; clear hH9
              try simp only [Act.put, List.setIfInBounds_toArray, List.set_cons_zero, List.set_cons_succ]
              refine wpAnyH_take_dst (i := 9) (v := .tuple #[.agg #[.int .i64 xL, .slice FB lL fd], .bool bL]) (d := some 144) rfl rfl (by kernel_rfl) (by kernel_rfl) (by kernel_rfl) (fun _ _ _ h => h) (Or.inl ⟨by rfl, ?_⟩) hH ?_
              · (intro w' hE'; (try dsimp only at hE'); have y0 := Ext.keep hE' HYt.out.c0; have y1 := Ext.keep hE' he0; have y2 := Ext.keep hE' he1; have y3 := Ext.keep hE' he2; have y4 := Ext.keep hE' he3; go_simp; try with_reducible rfl)
              try simp only [Act.put, List.setIfInBounds_toArray, List.set_cons_zero, List.set_cons_succ]
              refine wpAnyH_take_dst (i := 10) (v := .agg #[.int .i64 xL, .slice FB lL fd]) (d := some 154) rfl rfl (by kernel_rfl) (by kernel_rfl) (by kernel_rfl) (fun _ _ _ h => h) (Or.inl ⟨by rfl, ?_⟩) hH ?_
              · (intro w' hE'; (try dsimp only at hE'); have y0 := Ext.keep hE' HYt.out.c0; have y1 := Ext.keep hE' he0; have y2 := Ext.keep hE' he1; have y3 := Ext.keep hE' he2; have y4 := Ext.keep hE' he3; go_simp; try with_reducible rfl)
              try simp only [Act.put, List.setIfInBounds_toArray, List.set_cons_zero, List.set_cons_succ]
              refine wpAnyH_take_dst (i := 11) (v := .bool bL) (d := some 155) rfl rfl (by kernel_rfl) (by kernel_rfl) (by kernel_rfl) (fun _ _ _ h => h) (Or.inl ⟨by rfl, ?_⟩) hH ?_
              · (intro w' hE'; (try dsimp only at hE'); have y0 := Ext.keep hE' HYt.out.c0; have y1 := Ext.keep hE' he0; have y2 := Ext.keep hE' he1; have y3 := Ext.keep hE' he2; have y4 := Ext.keep hE' he3; go_simp; try with_reducible rfl)
              try simp only [Act.put, List.setIfInBounds_toArray, List.set_cons_zero, List.set_cons_succ]
              refine wpAnyH_ready (rs := [13]) (by kernel_rfl) (by simp) ?_
              refine AllReadyH.cons rfl (fun K hK => ?_) AllReadyH.nil
              rw [if_pos (by rfl)]
              obtain ⟨hb0, hge⟩ := hB w17.heap.size (by go_size); have hb := Bx.ext hb0 hE8; have k0 := hb.c0; have k1 := hb.c1; have kf := hb.fr; go_wp2_with fail
              refine hK.out _ _ ((hH.set hge _).set hge _) (fun hH9 => ?_)
              clear hK; have hH0 := hH; clear hH; have hH := hH9; clear hH9
              try simp only [Act.put, List.setIfInBounds_toArray, List.set_cons_zero, List.set_cons_succ]
              refine wpAnyH_take_dst (i := 14) (v := .bool bL) (d := some 19) rfl rfl (by kernel_rfl) (by kernel_rfl) (by kernel_rfl) (fun _ _ _ h => h) (Or.inl ⟨by rfl, ?_⟩) hH ?_
              · (intro w' hE'; (try dsimp only at hE'); have y0 := Ext.keep hE' HYt.out.c0; have y1 := Ext.keep hE' he0; have y2 := Ext.keep hE' he1; have y3 := Ext.keep hE' he2; have y4 := Ext.keep hE' he3; go_simp; try with_reducible rfl)
              try simp only [Act.put, List.setIfInBounds_toArray, List.set_cons_zero, List.set_cons_succ]
              refine wpAnyH_done (by kernel_rfl) ?_ _
              exact ⟨_, FB, fd, by rfl, Bx.put hb _ _, hH⟩
          obtain ⟨q2, FB, fd, ha, ⟨hB18, hE18⟩⟩ := hR
          simp only [Act.put, List.setIfInBounds_toArray, List.set_cons_zero, List.set_cons_succ] at ha
          subst ha
          have HYu := Lib.hid (HYt.out.ext hE18)
          have HQu := Lib.hid (RP.ext HQt.out hE18)
          have HEu := Lib.hid (Ext.trans HEt.out hE18)
          have HC18 := Lib.hid hB18
          have HB18 := Lib.hid (HB17.out.ext hE18)
          have HR7 := Lib.hid (RI.ext HR5.out hE18)
          have HR8 := Lib.hid (RI.ext HR6.out hE18)
          have hf0 := Ext.keep hE18 he0
          have hf1 := Ext.keep hE18 he1
          have hf2 := Ext.keep hE18 he2
          have hf3 := Ext.keep hE18 he3
          have hbl18 := World.block_lt_of_cell? w18 _ hf0
          clear hB18 HYt HQt HEt HR5 HR6 he0 he1 he2 he3 HB17
          go_wp2_with fail
          refine wp_only (R := fun (a0 : Act) (a8 : Act) (w9 : World) => a8 = (((((((((((((((((((((((a0.put (some 156) (.pointer (some ⟨p, 0, none⟩))).put (some 157) (.agg #[.slice AS 3 cS])).put (some 158) (.slice AQ 6 cQ)).put (some 159) (.slice (some ⟨b, o, none⟩) n lc)).put (some 160) (.int .i64 (i : Int))).put (some 161) (.pointer (some ⟨b, o + i * 4, none⟩))).put (some 162) (.agg #[.slice A1 n1 c1, .slice A2 n2 c2, .int .i64 pq.rule, .int .i64 pq.at_])).put (some 163) (.bool false)).put (some 164) (.bool false)).put (some 165) (undef)).put (some 166) (undef)).put (some 167) (undef)).put (some 168) (undef)).put (some 169) (undef)).put (some 170) (undef)).put (some 171) (undef)).put (some 172) (undef)).put (some 173) (undef)).put (some 174) (undef)).put (some 175) (undef)).put (some 176) (undef)).put (some 177) (undef)).put (some 178) (.bool false)) ∧ Ext w18 w9) ?_ (fun a8 w19 hR => ?_)
          · refine wp_region_held_drew (S := (fun w' => Ext w18 w')) (by kernel_rfl) ((Ext.refl w18).drew) (fun hH => ?_)
            refine wpAnyH_take_dst (i := 0) (v := .pointer (some ⟨p, 0, none⟩)) (d := some 156) rfl rfl (by kernel_rfl) (by kernel_rfl) (by kernel_rfl) (fun _ _ _ h => h) (Or.inl ⟨by rfl, ?_⟩) hH ?_
            · (intro w' hE'; (try dsimp only at hE'); have y0 := Ext.keep hE' HYu.out.c0; have y1 := Ext.keep hE' hf0; have y2 := Ext.keep hE' hf1; have y3 := Ext.keep hE' hf2; have y4 := Ext.keep hE' hf3; have y5 := Ext.keep hE' HB18.out.c0; have y6 := Ext.keep hE' HC18.out.c0; go_simp; try with_reducible rfl)
            try simp only [Act.put, List.setIfInBounds_toArray, List.set_cons_zero, List.set_cons_succ]
            refine wpAnyH_take_dst (i := 1) (v := .agg #[.slice AS 3 cS]) (d := some 157) rfl rfl (by kernel_rfl) (by kernel_rfl) (by kernel_rfl) (fun _ _ _ h => h) (Or.inl ⟨by rfl, ?_⟩) hH ?_
            · (intro w' hE'; (try dsimp only at hE'); have y0 := Ext.keep hE' HYu.out.c0; have y1 := Ext.keep hE' hf0; have y2 := Ext.keep hE' hf1; have y3 := Ext.keep hE' hf2; have y4 := Ext.keep hE' hf3; have y5 := Ext.keep hE' HB18.out.c0; have y6 := Ext.keep hE' HC18.out.c0; go_simp; try with_reducible rfl)
            try simp only [Act.put, List.setIfInBounds_toArray, List.set_cons_zero, List.set_cons_succ]
            refine wpAnyH_take_dst (i := 2) (v := .slice AQ 6 cQ) (d := some 158) rfl rfl (by kernel_rfl) (by kernel_rfl) (by kernel_rfl) (fun _ _ _ h => h) (Or.inl ⟨by rfl, ?_⟩) hH ?_
            · (intro w' hE'; (try dsimp only at hE'); have y0 := Ext.keep hE' HYu.out.c0; have y1 := Ext.keep hE' hf0; have y2 := Ext.keep hE' hf1; have y3 := Ext.keep hE' hf2; have y4 := Ext.keep hE' hf3; have y5 := Ext.keep hE' HB18.out.c0; have y6 := Ext.keep hE' HC18.out.c0; go_simp; try with_reducible rfl)
            try simp only [Act.put, List.setIfInBounds_toArray, List.set_cons_zero, List.set_cons_succ]
            refine wpAnyH_take_dst (i := 3) (v := .slice (some ⟨b, o, none⟩) n lc) (d := some 159) rfl rfl (by kernel_rfl) (by kernel_rfl) (by kernel_rfl) (fun _ _ _ h => h) (Or.inl ⟨by rfl, ?_⟩) hH ?_
            · (intro w' hE'; (try dsimp only at hE'); have y0 := Ext.keep hE' HYu.out.c0; have y1 := Ext.keep hE' hf0; have y2 := Ext.keep hE' hf1; have y3 := Ext.keep hE' hf2; have y4 := Ext.keep hE' hf3; have y5 := Ext.keep hE' HB18.out.c0; have y6 := Ext.keep hE' HC18.out.c0; go_simp; try with_reducible rfl)
            try simp only [Act.put, List.setIfInBounds_toArray, List.set_cons_zero, List.set_cons_succ]
            refine wpAnyH_take_dst (i := 4) (v := .int .i64 (i : Int)) (d := some 160) rfl rfl (by kernel_rfl) (by kernel_rfl) (by kernel_rfl) (fun _ _ _ h => h) (Or.inl ⟨by rfl, ?_⟩) hH ?_
            · (intro w' hE'; (try dsimp only at hE'); have y0 := Ext.keep hE' HYu.out.c0; have y1 := Ext.keep hE' hf0; have y2 := Ext.keep hE' hf1; have y3 := Ext.keep hE' hf2; have y4 := Ext.keep hE' hf3; have y5 := Ext.keep hE' HB18.out.c0; have y6 := Ext.keep hE' HC18.out.c0; go_simp; try with_reducible rfl)
            try simp only [Act.put, List.setIfInBounds_toArray, List.set_cons_zero, List.set_cons_succ]
            refine wpAnyH_take_dst (i := 5) (v := .pointer (some ⟨b, o + i * 4, none⟩)) (d := some 161) rfl rfl (by kernel_rfl) (by kernel_rfl) (by kernel_rfl) (fun _ _ _ h => h) (Or.inl ⟨by rfl, ?_⟩) hH ?_
            · (intro w' hE'; (try dsimp only at hE'); have y0 := Ext.keep hE' HYu.out.c0; have y1 := Ext.keep hE' hf0; have y2 := Ext.keep hE' hf1; have y3 := Ext.keep hE' hf2; have y4 := Ext.keep hE' hf3; have y5 := Ext.keep hE' HB18.out.c0; have y6 := Ext.keep hE' HC18.out.c0; go_simp; try with_reducible rfl)
            try simp only [Act.put, List.setIfInBounds_toArray, List.set_cons_zero, List.set_cons_succ]
            refine wpAnyH_take_dst (i := 6) (v := .agg #[.slice A1 n1 c1, .slice A2 n2 c2, .int .i64 pq.rule, .int .i64 pq.at_]) (d := some 162) rfl rfl (by kernel_rfl) (by kernel_rfl) (by kernel_rfl) (fun _ _ _ h => h) (Or.inl ⟨by rfl, ?_⟩) hH ?_
            · (intro w' hE'; (try dsimp only at hE'); have y0 := Ext.keep hE' HYu.out.c0; have y1 := Ext.keep hE' hf0; have y2 := Ext.keep hE' hf1; have y3 := Ext.keep hE' hf2; have y4 := Ext.keep hE' hf3; have y5 := Ext.keep hE' HB18.out.c0; have y6 := Ext.keep hE' HC18.out.c0; go_simp; try with_reducible rfl)
            try simp only [Act.put, List.setIfInBounds_toArray, List.set_cons_zero, List.set_cons_succ]
            refine wpAnyH_ready (rs := [7]) (by kernel_rfl) (by simp) ?_
            refine AllReadyH.cons rfl (fun K hK => ?_) AllReadyH.nil
            rw [if_pos (by rfl)]
            go_wp2_with fail
            (with_reducible refine (c_pairLessB HLT.out (HYu.out.ext hH).sig (RdPc.mkc hcapQ.1 hcapQ.2 (RP.ext HQu.out hH)) (RdDp.mk hcp1 hcp2 (RI.ext HR7.out hH) (RI.ext HR8.out hH))).mono ?_)
            rintro e w9 ⟨rfl, hE9⟩
            refine hK.out _ _ (Ext.trans hH hE9) (fun hH9 => ?_)
            clear hK; have hH0 := hH; clear hH; have hH := hH9; clear hH9
            try simp only [Act.put, List.setIfInBounds_toArray, List.set_cons_zero, List.set_cons_succ]
            refine wpAnyH_take_dst (i := 8) (v := .bool false) (d := some 164) rfl rfl (by kernel_rfl) (by kernel_rfl) (by kernel_rfl) (fun _ _ _ h => h) (Or.inl ⟨by rfl, ?_⟩) hH ?_
            · (intro w' hE'; (try dsimp only at hE'); have y0 := Ext.keep hE' HYu.out.c0; have y1 := Ext.keep hE' hf0; have y2 := Ext.keep hE' hf1; have y3 := Ext.keep hE' hf2; have y4 := Ext.keep hE' hf3; have y5 := Ext.keep hE' HB18.out.c0; have y6 := Ext.keep hE' HC18.out.c0; go_simp; try with_reducible rfl)
            try simp only [Act.put, List.setIfInBounds_toArray, List.set_cons_zero, List.set_cons_succ]
            refine wpAnyH_take_dst (i := 9) (v := undef) (d := some 165) rfl rfl (by kernel_rfl) (by kernel_rfl) (by kernel_rfl) (fun _ _ _ h => h) (Or.inr ⟨by rfl, rfl⟩) hH ?_
            try simp only [Act.put, List.setIfInBounds_toArray, List.set_cons_zero, List.set_cons_succ]
            refine wpAnyH_take_dst (i := 10) (v := undef) (d := some 166) rfl rfl (by kernel_rfl) (by kernel_rfl) (by kernel_rfl) (fun _ _ _ h => h) (Or.inr ⟨by rfl, rfl⟩) hH ?_
            try simp only [Act.put, List.setIfInBounds_toArray, List.set_cons_zero, List.set_cons_succ]
            refine wpAnyH_take_dst (i := 11) (v := undef) (d := some 167) rfl rfl (by kernel_rfl) (by kernel_rfl) (by kernel_rfl) (fun _ _ _ h => h) (Or.inr ⟨by rfl, rfl⟩) hH ?_
            try simp only [Act.put, List.setIfInBounds_toArray, List.set_cons_zero, List.set_cons_succ]
            refine wpAnyH_take_dst (i := 12) (v := undef) (d := some 168) rfl rfl (by kernel_rfl) (by kernel_rfl) (by kernel_rfl) (fun _ _ _ h => h) (Or.inr ⟨by rfl, rfl⟩) hH ?_
            try simp only [Act.put, List.setIfInBounds_toArray, List.set_cons_zero, List.set_cons_succ]
            refine wpAnyH_take_dst (i := 13) (v := undef) (d := some 169) rfl rfl (by kernel_rfl) (by kernel_rfl) (by kernel_rfl) (fun _ _ _ h => h) (Or.inr ⟨by rfl, rfl⟩) hH ?_
            try simp only [Act.put, List.setIfInBounds_toArray, List.set_cons_zero, List.set_cons_succ]
            refine wpAnyH_take_dst (i := 14) (v := undef) (d := some 170) rfl rfl (by kernel_rfl) (by kernel_rfl) (by kernel_rfl) (fun _ _ _ h => h) (Or.inr ⟨by rfl, rfl⟩) hH ?_
            try simp only [Act.put, List.setIfInBounds_toArray, List.set_cons_zero, List.set_cons_succ]
            refine wpAnyH_take_dst (i := 15) (v := undef) (d := some 171) rfl rfl (by kernel_rfl) (by kernel_rfl) (by kernel_rfl) (fun _ _ _ h => h) (Or.inr ⟨by rfl, rfl⟩) hH ?_
            try simp only [Act.put, List.setIfInBounds_toArray, List.set_cons_zero, List.set_cons_succ]
            refine wpAnyH_take_dst (i := 16) (v := undef) (d := some 172) rfl rfl (by kernel_rfl) (by kernel_rfl) (by kernel_rfl) (fun _ _ _ h => h) (Or.inr ⟨by rfl, rfl⟩) hH ?_
            try simp only [Act.put, List.setIfInBounds_toArray, List.set_cons_zero, List.set_cons_succ]
            refine wpAnyH_take_dst (i := 17) (v := undef) (d := some 173) rfl rfl (by kernel_rfl) (by kernel_rfl) (by kernel_rfl) (fun _ _ _ h => h) (Or.inr ⟨by rfl, rfl⟩) hH ?_
            try simp only [Act.put, List.setIfInBounds_toArray, List.set_cons_zero, List.set_cons_succ]
            refine wpAnyH_take_dst (i := 18) (v := undef) (d := some 174) rfl rfl (by kernel_rfl) (by kernel_rfl) (by kernel_rfl) (fun _ _ _ h => h) (Or.inr ⟨by rfl, rfl⟩) hH ?_
            try simp only [Act.put, List.setIfInBounds_toArray, List.set_cons_zero, List.set_cons_succ]
            refine wpAnyH_take_dst (i := 19) (v := undef) (d := some 175) rfl rfl (by kernel_rfl) (by kernel_rfl) (by kernel_rfl) (fun _ _ _ h => h) (Or.inr ⟨by rfl, rfl⟩) hH ?_
            try simp only [Act.put, List.setIfInBounds_toArray, List.set_cons_zero, List.set_cons_succ]
            refine wpAnyH_take_dst (i := 20) (v := undef) (d := some 176) rfl rfl (by kernel_rfl) (by kernel_rfl) (by kernel_rfl) (fun _ _ _ h => h) (Or.inr ⟨by rfl, rfl⟩) hH ?_
            try simp only [Act.put, List.setIfInBounds_toArray, List.set_cons_zero, List.set_cons_succ]
            refine wpAnyH_take_dst (i := 21) (v := undef) (d := some 177) rfl rfl (by kernel_rfl) (by kernel_rfl) (by kernel_rfl) (fun _ _ _ h => h) (Or.inr ⟨by rfl, rfl⟩) hH ?_
            try simp only [Act.put, List.setIfInBounds_toArray, List.set_cons_zero, List.set_cons_succ]
            refine wpAnyH_take_dst (i := 22) (v := .bool false) (d := some 178) rfl rfl (by kernel_rfl) (by kernel_rfl) (by kernel_rfl) (fun _ _ _ h => h) (Or.inl ⟨by rfl, ?_⟩) hH ?_
            · (intro w' hE'; (try dsimp only at hE'); have y0 := Ext.keep hE' HYu.out.c0; have y1 := Ext.keep hE' hf0; have y2 := Ext.keep hE' hf1; have y3 := Ext.keep hE' hf2; have y4 := Ext.keep hE' hf3; have y5 := Ext.keep hE' HB18.out.c0; have y6 := Ext.keep hE' HC18.out.c0; go_simp; try with_reducible rfl)
            try simp only [Act.put, List.setIfInBounds_toArray, List.set_cons_zero, List.set_cons_succ]
            refine wpAnyH_done (by kernel_rfl) ?_ _
            exact ⟨by rfl, hH⟩
          obtain ⟨ha, hE19⟩ := hR
          simp only [Act.put, List.setIfInBounds_toArray, List.set_cons_zero, List.set_cons_succ] at ha
          subst ha
          go_wp2_with fail
          go_roundw
          case rel => exact ⟨i + 1, by go_num, HIN.out, Ext.trans hErr (Ext.trans hE16 (Ext.trans hE17 (Ext.trans hE18 hE19)))⟩
          case measure => (have h9 := HIN.out); simp only [intOf]; omega
        | true =>
          obtain ⟨hbR1, hbL1, hRL⟩ := HSO.out (by trivial)
          subst hbR1; subst hbL1
          have hd1 : ¬ xL ≤ xR := by omega
          have hd1b : decide (xL ≤ xR) = false := by simpa using hRL
          have hd1c : decide (xR ≥ xL) = false := by simpa using hRL
          clear HSO
          go_wp2_with fail
          refine wp_only (R := fun (a0 : Act) (a8 : Act) (w9 : World) => a8 = (((((((((((((((((((a0.put (some 113) (.pointer (some ⟨p, 0, none⟩))).put (some 114) (.agg #[.slice AS 3 cS])).put (some 115) (.slice AQ 6 cQ)).put (some 116) (.slice (some ⟨b, o, none⟩) n lc)).put (some 117) (.int .i64 (i : Int))).put (some 118) (.pointer (some ⟨b, o + i * 4, none⟩))).put (some 119) (.agg #[.slice A1 n1 c1, .slice A2 n2 c2, .int .i64 pq.rule, .int .i64 pq.at_])).put (some 120) (.bool true)).put (some 121) (.bool true)).put (some 122) (.pointer (some ⟨p, 0, none⟩))).put (some 123) (.agg #[.slice AS 3 cS])).put (some 124) (.slice AQ 6 cQ)).put (some 125) (.slice (some ⟨b, o, none⟩) n lc)).put (some 126) (.int .i64 (i : Int))).put (some 127) (.pointer (some ⟨b, o + i * 4, none⟩))).put (some 128) (.agg #[.slice A1 n1 c1, .slice A2 n2 c2, .int .i64 pq.rule, .int .i64 pq.at_])).put (some 129) (.bool true)).put (some 130) (.bool false)).put (some 131) (.bool false)) ∧ Ext wr w9) ?_ (fun a8 w16 hR => ?_)
          · refine wp_region_held_drew (S := (fun w' => Ext wr w')) (by kernel_rfl) ((Ext.refl wr).drew) (fun hH => ?_)
            refine wpAnyH_take_dst (i := 0) (v := .pointer (some ⟨p, 0, none⟩)) (d := some 113) rfl rfl (by kernel_rfl) (by kernel_rfl) (by kernel_rfl) (fun _ _ _ h => h) (Or.inl ⟨by rfl, ?_⟩) hH ?_
            · (intro w' hE'; (try dsimp only at hE'); have y0 := Ext.keep hE' HYr.out.c0; have y1 := Ext.keep hE' hc0; have y2 := Ext.keep hE' hc1; have y3 := Ext.keep hE' hc2; have y4 := Ext.keep hE' hc3; go_simp; try with_reducible rfl)
            try simp only [Act.put, List.setIfInBounds_toArray, List.set_cons_zero, List.set_cons_succ]
            refine wpAnyH_take_dst (i := 1) (v := .agg #[.slice AS 3 cS]) (d := some 114) rfl rfl (by kernel_rfl) (by kernel_rfl) (by kernel_rfl) (fun _ _ _ h => h) (Or.inl ⟨by rfl, ?_⟩) hH ?_
            · (intro w' hE'; (try dsimp only at hE'); have y0 := Ext.keep hE' HYr.out.c0; have y1 := Ext.keep hE' hc0; have y2 := Ext.keep hE' hc1; have y3 := Ext.keep hE' hc2; have y4 := Ext.keep hE' hc3; go_simp; try with_reducible rfl)
            try simp only [Act.put, List.setIfInBounds_toArray, List.set_cons_zero, List.set_cons_succ]
            refine wpAnyH_take_dst (i := 2) (v := .slice AQ 6 cQ) (d := some 115) rfl rfl (by kernel_rfl) (by kernel_rfl) (by kernel_rfl) (fun _ _ _ h => h) (Or.inl ⟨by rfl, ?_⟩) hH ?_
            · (intro w' hE'; (try dsimp only at hE'); have y0 := Ext.keep hE' HYr.out.c0; have y1 := Ext.keep hE' hc0; have y2 := Ext.keep hE' hc1; have y3 := Ext.keep hE' hc2; have y4 := Ext.keep hE' hc3; go_simp; try with_reducible rfl)
            try simp only [Act.put, List.setIfInBounds_toArray, List.set_cons_zero, List.set_cons_succ]
            refine wpAnyH_take_dst (i := 3) (v := .slice (some ⟨b, o, none⟩) n lc) (d := some 116) rfl rfl (by kernel_rfl) (by kernel_rfl) (by kernel_rfl) (fun _ _ _ h => h) (Or.inl ⟨by rfl, ?_⟩) hH ?_
            · (intro w' hE'; (try dsimp only at hE'); have y0 := Ext.keep hE' HYr.out.c0; have y1 := Ext.keep hE' hc0; have y2 := Ext.keep hE' hc1; have y3 := Ext.keep hE' hc2; have y4 := Ext.keep hE' hc3; go_simp; try with_reducible rfl)
            try simp only [Act.put, List.setIfInBounds_toArray, List.set_cons_zero, List.set_cons_succ]
            refine wpAnyH_take_dst (i := 4) (v := .int .i64 (i : Int)) (d := some 117) rfl rfl (by kernel_rfl) (by kernel_rfl) (by kernel_rfl) (fun _ _ _ h => h) (Or.inl ⟨by rfl, ?_⟩) hH ?_
            · (intro w' hE'; (try dsimp only at hE'); have y0 := Ext.keep hE' HYr.out.c0; have y1 := Ext.keep hE' hc0; have y2 := Ext.keep hE' hc1; have y3 := Ext.keep hE' hc2; have y4 := Ext.keep hE' hc3; go_simp; try with_reducible rfl)
            try simp only [Act.put, List.setIfInBounds_toArray, List.set_cons_zero, List.set_cons_succ]
            refine wpAnyH_take_dst (i := 5) (v := .pointer (some ⟨b, o + i * 4, none⟩)) (d := some 118) rfl rfl (by kernel_rfl) (by kernel_rfl) (by kernel_rfl) (fun _ _ _ h => h) (Or.inl ⟨by rfl, ?_⟩) hH ?_
            · (intro w' hE'; (try dsimp only at hE'); have y0 := Ext.keep hE' HYr.out.c0; have y1 := Ext.keep hE' hc0; have y2 := Ext.keep hE' hc1; have y3 := Ext.keep hE' hc2; have y4 := Ext.keep hE' hc3; go_simp; try with_reducible rfl)
            try simp only [Act.put, List.setIfInBounds_toArray, List.set_cons_zero, List.set_cons_succ]
            refine wpAnyH_take_dst (i := 6) (v := .agg #[.slice A1 n1 c1, .slice A2 n2 c2, .int .i64 pq.rule, .int .i64 pq.at_]) (d := some 119) rfl rfl (by kernel_rfl) (by kernel_rfl) (by kernel_rfl) (fun _ _ _ h => h) (Or.inl ⟨by rfl, ?_⟩) hH ?_
            · (intro w' hE'; (try dsimp only at hE'); have y0 := Ext.keep hE' HYr.out.c0; have y1 := Ext.keep hE' hc0; have y2 := Ext.keep hE' hc1; have y3 := Ext.keep hE' hc2; have y4 := Ext.keep hE' hc3; go_simp; try with_reducible rfl)
            try simp only [Act.put, List.setIfInBounds_toArray, List.set_cons_zero, List.set_cons_succ]
            refine wpAnyH_ready (rs := [7]) (by kernel_rfl) (by simp) ?_
            refine AllReadyH.cons rfl (fun K hK => ?_) AllReadyH.nil
            rw [if_pos (by rfl)]
            go_wp2_with fail
            (with_reducible refine (c_pairLessB HLT.out (HYr.out.ext hH).sig (RdPc.mkc hcapQ.1 hcapQ.2 (RP.ext HQr.out hH)) (RdDp.mk hcp1 hcp2 (RI.ext HR1.out hH) (RI.ext HR2.out hH))).mono ?_)
            rintro e w9 ⟨rfl, hE9⟩
            refine hK.out _ _ (Ext.trans hH hE9) (fun hH9 => ?_)
            clear hK; have hH0 := hH; clear hH; have hH := hH9; clear hH9
            try simp only [Act.put, List.setIfInBounds_toArray, List.set_cons_zero, List.set_cons_succ]
            refine wpAnyH_take_dst (i := 8) (v := .bool true) (d := some 121) rfl rfl (by kernel_rfl) (by kernel_rfl) (by kernel_rfl) (fun _ _ _ h => h) (Or.inl ⟨by rfl, ?_⟩) hH ?_
            · (intro w' hE'; (try dsimp only at hE'); have y0 := Ext.keep hE' HYr.out.c0; have y1 := Ext.keep hE' hc0; have y2 := Ext.keep hE' hc1; have y3 := Ext.keep hE' hc2; have y4 := Ext.keep hE' hc3; go_simp; try with_reducible rfl)
            try simp only [Act.put, List.setIfInBounds_toArray, List.set_cons_zero, List.set_cons_succ]
            refine wpAnyH_take_dst (i := 9) (v := .pointer (some ⟨p, 0, none⟩)) (d := some 122) rfl rfl (by kernel_rfl) (by kernel_rfl) (by kernel_rfl) (fun _ _ _ h => h) (Or.inl ⟨by rfl, ?_⟩) hH ?_
            · (intro w' hE'; (try dsimp only at hE'); have y0 := Ext.keep hE' HYr.out.c0; have y1 := Ext.keep hE' hc0; have y2 := Ext.keep hE' hc1; have y3 := Ext.keep hE' hc2; have y4 := Ext.keep hE' hc3; go_simp; try with_reducible rfl)
            try simp only [Act.put, List.setIfInBounds_toArray, List.set_cons_zero, List.set_cons_succ]
            refine wpAnyH_take_dst (i := 10) (v := .agg #[.slice AS 3 cS]) (d := some 123) rfl rfl (by kernel_rfl) (by kernel_rfl) (by kernel_rfl) (fun _ _ _ h => h) (Or.inl ⟨by rfl, ?_⟩) hH ?_
            · (intro w' hE'; (try dsimp only at hE'); have y0 := Ext.keep hE' HYr.out.c0; have y1 := Ext.keep hE' hc0; have y2 := Ext.keep hE' hc1; have y3 := Ext.keep hE' hc2; have y4 := Ext.keep hE' hc3; go_simp; try with_reducible rfl)
            try simp only [Act.put, List.setIfInBounds_toArray, List.set_cons_zero, List.set_cons_succ]
            refine wpAnyH_take_dst (i := 11) (v := .slice AQ 6 cQ) (d := some 124) rfl rfl (by kernel_rfl) (by kernel_rfl) (by kernel_rfl) (fun _ _ _ h => h) (Or.inl ⟨by rfl, ?_⟩) hH ?_
            · (intro w' hE'; (try dsimp only at hE'); have y0 := Ext.keep hE' HYr.out.c0; have y1 := Ext.keep hE' hc0; have y2 := Ext.keep hE' hc1; have y3 := Ext.keep hE' hc2; have y4 := Ext.keep hE' hc3; go_simp; try with_reducible rfl)
            try simp only [Act.put, List.setIfInBounds_toArray, List.set_cons_zero, List.set_cons_succ]
            refine wpAnyH_take_dst (i := 12) (v := .slice (some ⟨b, o, none⟩) n lc) (d := some 125) rfl rfl (by kernel_rfl) (by kernel_rfl) (by kernel_rfl) (fun _ _ _ h => h) (Or.inl ⟨by rfl, ?_⟩) hH ?_
            · (intro w' hE'; (try dsimp only at hE'); have y0 := Ext.keep hE' HYr.out.c0; have y1 := Ext.keep hE' hc0; have y2 := Ext.keep hE' hc1; have y3 := Ext.keep hE' hc2; have y4 := Ext.keep hE' hc3; go_simp; try with_reducible rfl)
            try simp only [Act.put, List.setIfInBounds_toArray, List.set_cons_zero, List.set_cons_succ]
            refine wpAnyH_take_dst (i := 13) (v := .int .i64 (i : Int)) (d := some 126) rfl rfl (by kernel_rfl) (by kernel_rfl) (by kernel_rfl) (fun _ _ _ h => h) (Or.inl ⟨by rfl, ?_⟩) hH ?_
            · (intro w' hE'; (try dsimp only at hE'); have y0 := Ext.keep hE' HYr.out.c0; have y1 := Ext.keep hE' hc0; have y2 := Ext.keep hE' hc1; have y3 := Ext.keep hE' hc2; have y4 := Ext.keep hE' hc3; go_simp; try with_reducible rfl)
            try simp only [Act.put, List.setIfInBounds_toArray, List.set_cons_zero, List.set_cons_succ]
            refine wpAnyH_take_dst (i := 14) (v := .pointer (some ⟨b, o + i * 4, none⟩)) (d := some 127) rfl rfl (by kernel_rfl) (by kernel_rfl) (by kernel_rfl) (fun _ _ _ h => h) (Or.inl ⟨by rfl, ?_⟩) hH ?_
            · (intro w' hE'; (try dsimp only at hE'); have y0 := Ext.keep hE' HYr.out.c0; have y1 := Ext.keep hE' hc0; have y2 := Ext.keep hE' hc1; have y3 := Ext.keep hE' hc2; have y4 := Ext.keep hE' hc3; go_simp; try with_reducible rfl)
            try simp only [Act.put, List.setIfInBounds_toArray, List.set_cons_zero, List.set_cons_succ]
            refine wpAnyH_take_dst (i := 15) (v := .agg #[.slice A1 n1 c1, .slice A2 n2 c2, .int .i64 pq.rule, .int .i64 pq.at_]) (d := some 128) rfl rfl (by kernel_rfl) (by kernel_rfl) (by kernel_rfl) (fun _ _ _ h => h) (Or.inl ⟨by rfl, ?_⟩) hH ?_
            · (intro w' hE'; (try dsimp only at hE'); have y0 := Ext.keep hE' HYr.out.c0; have y1 := Ext.keep hE' hc0; have y2 := Ext.keep hE' hc1; have y3 := Ext.keep hE' hc2; have y4 := Ext.keep hE' hc3; go_simp; try with_reducible rfl)
            try simp only [Act.put, List.setIfInBounds_toArray, List.set_cons_zero, List.set_cons_succ]
            refine wpAnyH_ready (rs := [16]) (by kernel_rfl) (by simp) ?_
            refine AllReadyH.cons rfl (fun K hK => ?_) AllReadyH.nil
            rw [if_pos (by rfl)]
            go_wp2_with fail
            (with_reducible refine (c_pairMostB (HMO.out (by trivial)) (HYr.out.ext hH).sig (RdPc.mkc hcapQ.1 hcapQ.2 (RP.ext HQr.out hH)) (RdDp.mk hcp1 hcp2 (RI.ext HR1.out hH) (RI.ext HR2.out hH))).mono ?_)
            rintro e w9 ⟨rfl, hE9⟩
            refine hK.out _ _ (Ext.trans hH hE9) (fun hH9 => ?_)
            clear hK; have hH0 := hH; clear hH; have hH := hH9; clear hH9
            try simp only [Act.put, List.setIfInBounds_toArray, List.set_cons_zero, List.set_cons_succ]
            refine wpAnyH_take_dst (i := 17) (v := .bool false) (d := some 130) rfl rfl (by kernel_rfl) (by kernel_rfl) (by kernel_rfl) (fun _ _ _ h => h) (Or.inl ⟨by rfl, ?_⟩) hH ?_
            · (intro w' hE'; (try dsimp only at hE'); have y0 := Ext.keep hE' HYr.out.c0; have y1 := Ext.keep hE' hc0; have y2 := Ext.keep hE' hc1; have y3 := Ext.keep hE' hc2; have y4 := Ext.keep hE' hc3; go_simp; try with_reducible rfl)
            try simp only [Act.put, List.setIfInBounds_toArray, List.set_cons_zero, List.set_cons_succ]
            refine wpAnyH_take_dst (i := 18) (v := .bool false) (d := some 131) rfl rfl (by kernel_rfl) (by kernel_rfl) (by kernel_rfl) (fun _ _ _ h => h) (Or.inl ⟨by rfl, ?_⟩) hH ?_
            · (intro w' hE'; (try dsimp only at hE'); have y0 := Ext.keep hE' HYr.out.c0; have y1 := Ext.keep hE' hc0; have y2 := Ext.keep hE' hc1; have y3 := Ext.keep hE' hc2; have y4 := Ext.keep hE' hc3; go_simp; try with_reducible rfl)
            try simp only [Act.put, List.setIfInBounds_toArray, List.set_cons_zero, List.set_cons_succ]
            refine wpAnyH_done (by kernel_rfl) ?_ _
            exact ⟨by rfl, hH⟩
          obtain ⟨ha, hE16⟩ := hR
          simp only [Act.put, List.setIfInBounds_toArray, List.set_cons_zero, List.set_cons_succ] at ha
          subst ha
          have HYs := Lib.hid (HYr.out.ext hE16)
          have HQs := Lib.hid (RP.ext HQr.out hE16)
          have HEs := Lib.hid (Ext.trans HEr.out hE16)
          have HR3 := Lib.hid (RI.ext HR1.out hE16)
          have HR4 := Lib.hid (RI.ext HR2.out hE16)
          have hd0 := Ext.keep hE16 hc0
          have hd1x := Ext.keep hE16 hc1
          have hd2x := Ext.keep hE16 hc2
          have hd3x := Ext.keep hE16 hc3
          have hbl16 := World.block_lt_of_cell? w16 _ hd0
          clear HYr HQr HEr HR1 HR2 hc0 hc1 hc2 hc3
          go_wp2_with fail
          refine wp_only (R := fun (a0 : Act) (a8 : Act) (w9 : World) => ∃ (q1 : Nat) (FB : Option Addr) (fd : Nat), a8 = ((((((((((((((a0.put (some 133) (.pointer (some ⟨p, 0, none⟩))).put (some 134) (.agg #[.slice AS 3 cS])).put (some 135) (.slice AQ 6 cQ)).put (some 136) (.slice (some ⟨b, o, none⟩) n lc)).put (some 137) (.int .i64 (i : Int))).put (some 138) (.pointer (some ⟨b, o + i * 4, none⟩))).put (some 139) (.pointer (some ⟨b, o + i * 4 + 1, none⟩))).put (some 140) (.slice A2 n2 c2)).put (some 141) (.tuple #[.agg #[.int .i64 xR, .slice FB lR fd], .bool true])).put (some 132) (.tuple #[.agg #[.int .i64 xR, .slice FB lR fd], .bool true])).put (some 142) (.agg #[.int .i64 xR, .slice FB lR fd])).put (some 143) (.bool true)).put (some 16) (.pointer (some ⟨q1, 0, none⟩))).put (some 17) (.bool true)) ∧ Bx w9 q1 (.int .i64 xR) (.slice FB lR fd) ∧ Ext w16 w9) ?_ (fun a8 w17 hR => ?_)
          · refine wp_region_held_drew (S := (fun w' => Ext w16 w')) (by kernel_rfl) ((Ext.refl w16).drew) (fun hH => ?_)
            refine wpAnyH_take_dst (i := 0) (v := .pointer (some ⟨p, 0, none⟩)) (d := some 133) rfl rfl (by kernel_rfl) (by kernel_rfl) (by kernel_rfl) (fun _ _ _ h => h) (Or.inl ⟨by rfl, ?_⟩) hH ?_
            · (intro w' hE'; (try dsimp only at hE'); have y0 := Ext.keep hE' HYs.out.c0; have y1 := Ext.keep hE' hd0; have y2 := Ext.keep hE' hd1x; have y3 := Ext.keep hE' hd2x; have y4 := Ext.keep hE' hd3x; go_simp; try with_reducible rfl)
            try simp only [Act.put, List.setIfInBounds_toArray, List.set_cons_zero, List.set_cons_succ]
            refine wpAnyH_take_dst (i := 1) (v := .agg #[.slice AS 3 cS]) (d := some 134) rfl rfl (by kernel_rfl) (by kernel_rfl) (by kernel_rfl) (fun _ _ _ h => h) (Or.inl ⟨by rfl, ?_⟩) hH ?_
            · (intro w' hE'; (try dsimp only at hE'); have y0 := Ext.keep hE' HYs.out.c0; have y1 := Ext.keep hE' hd0; have y2 := Ext.keep hE' hd1x; have y3 := Ext.keep hE' hd2x; have y4 := Ext.keep hE' hd3x; go_simp; try with_reducible rfl)
            try simp only [Act.put, List.setIfInBounds_toArray, List.set_cons_zero, List.set_cons_succ]
            refine wpAnyH_take_dst (i := 2) (v := .slice AQ 6 cQ) (d := some 135) rfl rfl (by kernel_rfl) (by kernel_rfl) (by kernel_rfl) (fun _ _ _ h => h) (Or.inl ⟨by rfl, ?_⟩) hH ?_
            · (intro w' hE'; (try dsimp only at hE'); have y0 := Ext.keep hE' HYs.out.c0; have y1 := Ext.keep hE' hd0; have y2 := Ext.keep hE' hd1x; have y3 := Ext.keep hE' hd2x; have y4 := Ext.keep hE' hd3x; go_simp; try with_reducible rfl)
            try simp only [Act.put, List.setIfInBounds_toArray, List.set_cons_zero, List.set_cons_succ]
            refine wpAnyH_take_dst (i := 3) (v := .slice (some ⟨b, o, none⟩) n lc) (d := some 136) rfl rfl (by kernel_rfl) (by kernel_rfl) (by kernel_rfl) (fun _ _ _ h => h) (Or.inl ⟨by rfl, ?_⟩) hH ?_
            · (intro w' hE'; (try dsimp only at hE'); have y0 := Ext.keep hE' HYs.out.c0; have y1 := Ext.keep hE' hd0; have y2 := Ext.keep hE' hd1x; have y3 := Ext.keep hE' hd2x; have y4 := Ext.keep hE' hd3x; go_simp; try with_reducible rfl)
            try simp only [Act.put, List.setIfInBounds_toArray, List.set_cons_zero, List.set_cons_succ]
            refine wpAnyH_take_dst (i := 4) (v := .int .i64 (i : Int)) (d := some 137) rfl rfl (by kernel_rfl) (by kernel_rfl) (by kernel_rfl) (fun _ _ _ h => h) (Or.inl ⟨by rfl, ?_⟩) hH ?_
            · (intro w' hE'; (try dsimp only at hE'); have y0 := Ext.keep hE' HYs.out.c0; have y1 := Ext.keep hE' hd0; have y2 := Ext.keep hE' hd1x; have y3 := Ext.keep hE' hd2x; have y4 := Ext.keep hE' hd3x; go_simp; try with_reducible rfl)
            try simp only [Act.put, List.setIfInBounds_toArray, List.set_cons_zero, List.set_cons_succ]
            refine wpAnyH_take_dst (i := 5) (v := .pointer (some ⟨b, o + i * 4, none⟩)) (d := some 138) rfl rfl (by kernel_rfl) (by kernel_rfl) (by kernel_rfl) (fun _ _ _ h => h) (Or.inl ⟨by rfl, ?_⟩) hH ?_
            · (intro w' hE'; (try dsimp only at hE'); have y0 := Ext.keep hE' HYs.out.c0; have y1 := Ext.keep hE' hd0; have y2 := Ext.keep hE' hd1x; have y3 := Ext.keep hE' hd2x; have y4 := Ext.keep hE' hd3x; go_simp; try with_reducible rfl)
            try simp only [Act.put, List.setIfInBounds_toArray, List.set_cons_zero, List.set_cons_succ]
            refine wpAnyH_take_dst (i := 6) (v := .pointer (some ⟨b, o + i * 4 + 1, none⟩)) (d := some 139) rfl rfl (by kernel_rfl) (by kernel_rfl) (by kernel_rfl) (fun _ _ _ h => h) (Or.inl ⟨by rfl, ?_⟩) hH ?_
            · (intro w' hE'; (try dsimp only at hE'); have y0 := Ext.keep hE' HYs.out.c0; have y1 := Ext.keep hE' hd0; have y2 := Ext.keep hE' hd1x; have y3 := Ext.keep hE' hd2x; have y4 := Ext.keep hE' hd3x; go_simp; try with_reducible rfl)
            try simp only [Act.put, List.setIfInBounds_toArray, List.set_cons_zero, List.set_cons_succ]
            refine wpAnyH_take_dst (i := 7) (v := .slice A2 n2 c2) (d := some 140) rfl rfl (by kernel_rfl) (by kernel_rfl) (by kernel_rfl) (fun _ _ _ h => h) (Or.inl ⟨by rfl, ?_⟩) hH ?_
            · (intro w' hE'; (try dsimp only at hE'); have y0 := Ext.keep hE' HYs.out.c0; have y1 := Ext.keep hE' hd0; have y2 := Ext.keep hE' hd1x; have y3 := Ext.keep hE' hd2x; have y4 := Ext.keep hE' hd3x; go_simp; try with_reducible rfl)
            try simp only [Act.put, List.setIfInBounds_toArray, List.set_cons_zero, List.set_cons_succ]
            refine wpAnyH_ready (rs := [8, 12]) (by kernel_rfl) (by simp) ?_
            refine AllReadyH.cons rfl (fun K hK => ?_) (AllReadyH.cons rfl (fun K hK => ?_) (AllReadyH.nil))
            · rw [if_pos (by rfl)]
              go_wp2_with fail
              (with_reducible refine (c_sHeadB HOR.out HNR.out.1 HNR.out.2.1 HNR.out.2.2 (HYs.out.ext hH).sig (RdPc.mkc hcapQ.1 hcapQ.2 (RP.ext HQs.out hH)) (RdIc.mk hcp2 (RI.ext HR4.out hH))).mono ?_)
              rintro e w9 ⟨FB, fd, rfl, hE8⟩
              refine hK.out _ _ (Ext.trans hH hE8) (fun hH9 => ?_)
              clear hK; have hH0 := hH; clear hH; have hH := hH9; clear hH9
              try simp only [Act.put, List.setIfInBounds_toArray, List.set_cons_zero, List.set_cons_succ]
              refine wpAnyH_take_dst (i := 9) (v := .tuple #[.agg #[.int .i64 xR, .slice FB lR fd], .bool true]) (d := some 132) rfl rfl (by kernel_rfl) (by kernel_rfl) (by kernel_rfl) (fun _ _ _ h => h) (Or.inl ⟨by rfl, ?_⟩) hH ?_
              · (intro w' hE'; (try dsimp only at hE'); have y0 := Ext.keep hE' HYs.out.c0; have y1 := Ext.keep hE' hd0; have y2 := Ext.keep hE' hd1x; have y3 := Ext.keep hE' hd2x; have y4 := Ext.keep hE' hd3x; go_simp; try with_reducible rfl)
              try simp only [Act.put, List.setIfInBounds_toArray, List.set_cons_zero, List.set_cons_succ]
              refine wpAnyH_take_dst (i := 10) (v := .agg #[.int .i64 xR, .slice FB lR fd]) (d := some 142) rfl rfl (by kernel_rfl) (by kernel_rfl) (by kernel_rfl) (fun _ _ _ h => h) (Or.inl ⟨by rfl, ?_⟩) hH ?_
              · (intro w' hE'; (try dsimp only at hE'); have y0 := Ext.keep hE' HYs.out.c0; have y1 := Ext.keep hE' hd0; have y2 := Ext.keep hE' hd1x; have y3 := Ext.keep hE' hd2x; have y4 := Ext.keep hE' hd3x; go_simp; try with_reducible rfl)
              try simp only [Act.put, List.setIfInBounds_toArray, List.set_cons_zero, List.set_cons_succ]
              refine wpAnyH_take_dst (i := 11) (v := .bool true) (d := some 143) rfl rfl (by kernel_rfl) (by kernel_rfl) (by kernel_rfl) (fun _ _ _ h => h) (Or.inl ⟨by rfl, ?_⟩) hH ?_
              · (intro w' hE'; (try dsimp only at hE'); have y0 := Ext.keep hE' HYs.out.c0; have y1 := Ext.keep hE' hd0; have y2 := Ext.keep hE' hd1x; have y3 := Ext.keep hE' hd2x; have y4 := Ext.keep hE' hd3x; go_simp; try with_reducible rfl)
              try simp only [Act.put, List.setIfInBounds_toArray, List.set_cons_zero, List.set_cons_succ]
              refine wpAnyH_ready (rs := [12]) (by kernel_rfl) (by simp) ?_
              refine AllReadyH.cons rfl (fun K hK => ?_) AllReadyH.nil
              rw [if_pos (by rfl)]
              have hB := bx_of hH; go_wp2_with fail
              refine hK.out _ _ (hH.alloc _) (fun hH9 => ?_)
              clear hK; have hH0 := hH; clear hH; have hH := hH9; clear hH9
              try simp only [Act.put, List.setIfInBounds_toArray, List.set_cons_zero, List.set_cons_succ]
              refine wpAnyH_ready (rs := [13]) (by kernel_rfl) (by simp) ?_
              refine AllReadyH.cons rfl (fun K hK => ?_) AllReadyH.nil
              rw [if_pos (by rfl)]
              go_wp2_with fail
              refine hK.out _ _ (hH0.alloc _) (fun hH9 => ?_)
              clear hK; have hH0 := hH; clear hH; have hH := hH9; clear hH9
              try simp only [Act.put, List.setIfInBounds_toArray, List.set_cons_zero, List.set_cons_succ]
              refine wpAnyH_take_dst (i := 14) (v := .bool true) (d := some 17) rfl rfl (by kernel_rfl) (by kernel_rfl) (by kernel_rfl) (fun _ _ _ h => h) (Or.inl ⟨by rfl, ?_⟩) hH ?_
              · (intro w' hE'; (try dsimp only at hE'); have y0 := Ext.keep hE' HYs.out.c0; have y1 := Ext.keep hE' hd0; have y2 := Ext.keep hE' hd1x; have y3 := Ext.keep hE' hd2x; have y4 := Ext.keep hE' hd3x; go_simp; try with_reducible rfl)
              try simp only [Act.put, List.setIfInBounds_toArray, List.set_cons_zero, List.set_cons_succ]
              refine wpAnyH_done (by kernel_rfl) ?_ _
              exact ⟨w9.heap.size, FB, fd, by rfl, Bx.new _ _ _ _ rfl, hH⟩
            · rw [if_pos (by rfl)]
              have hB := bx_of hH; go_wp2_with fail
              refine hK.out _ _ (hH.alloc _) (fun hH9 => ?_)
              clear hK; have hH0 := hH; clear hH; have hH := hH9; clear hH9
              try simp only [Act.put, List.setIfInBounds_toArray, List.set_cons_zero, List.set_cons_succ]
              refine wpAnyH_ready (rs := [8]) (by kernel_rfl) (by simp) ?_
              refine AllReadyH.cons rfl (fun K hK => ?_) AllReadyH.nil
              rw [if_pos (by rfl)]
              go_wp2_with fail
              (with_reducible refine (c_sHeadB HOR.out HNR.out.1 HNR.out.2.1 HNR.out.2.2 (HYs.out.ext hH).sig (RdPc.mkc hcapQ.1 hcapQ.2 (RP.ext HQs.out hH)) (RdIc.mk hcp2 (RI.ext HR4.out hH))).mono ?_)
              rintro e w9 ⟨FB, fd, rfl, hE8⟩
              refine hK.out _ _ (Ext.trans hH hE8) (fun hH9 => ?_)
              clear hK; have hH0 := hH; clear hH; have hH := hH9; clear hH9
              try simp only [Act.put, List.setIfInBounds_toArray, List.set_cons_zero, List.set_cons_succ]
              refine wpAnyH_take_dst (i := 9) (v := .tuple #[.agg #[.int .i64 xR, .slice FB lR fd], .bool true]) (d := some 132) rfl rfl (by kernel_rfl) (by kernel_rfl) (by kernel_rfl) (fun _ _ _ h => h) (Or.inl ⟨by rfl, ?_⟩) hH ?_
              · (intro w' hE'; (try dsimp only at hE'); have y0 := Ext.keep hE' HYs.out.c0; have y1 := Ext.keep hE' hd0; have y2 := Ext.keep hE' hd1x; have y3 := Ext.keep hE' hd2x; have y4 := Ext.keep hE' hd3x; go_simp; try with_reducible rfl)
              try simp only [Act.put, List.setIfInBounds_toArray, List.set_cons_zero, List.set_cons_succ]
              refine wpAnyH_take_dst (i := 10) (v := .agg #[.int .i64 xR, .slice FB lR fd]) (d := some 142) rfl rfl (by kernel_rfl) (by kernel_rfl) (by kernel_rfl) (fun _ _ _ h => h) (Or.inl ⟨by rfl, ?_⟩) hH ?_
              · (intro w' hE'; (try dsimp only at hE'); have y0 := Ext.keep hE' HYs.out.c0; have y1 := Ext.keep hE' hd0; have y2 := Ext.keep hE' hd1x; have y3 := Ext.keep hE' hd2x; have y4 := Ext.keep hE' hd3x; go_simp; try with_reducible rfl)
              try simp only [Act.put, List.setIfInBounds_toArray, List.set_cons_zero, List.set_cons_succ]
              refine wpAnyH_take_dst (i := 11) (v := .bool true) (d := some 143) rfl rfl (by kernel_rfl) (by kernel_rfl) (by kernel_rfl) (fun _ _ _ h => h) (Or.inl ⟨by rfl, ?_⟩) hH ?_
              · (intro w' hE'; (try dsimp only at hE'); have y0 := Ext.keep hE' HYs.out.c0; have y1 := Ext.keep hE' hd0; have y2 := Ext.keep hE' hd1x; have y3 := Ext.keep hE' hd2x; have y4 := Ext.keep hE' hd3x; go_simp; try with_reducible rfl)
              try simp only [Act.put, List.setIfInBounds_toArray, List.set_cons_zero, List.set_cons_succ]
              refine wpAnyH_ready (rs := [13]) (by kernel_rfl) (by simp) ?_
              refine AllReadyH.cons rfl (fun K hK => ?_) AllReadyH.nil
              rw [if_pos (by rfl)]
              obtain ⟨hb0, hge⟩ := hB w16.heap.size (by go_size); have hb := Bx.ext hb0 hE8; have k0 := hb.c0; have k1 := hb.c1; have kf := hb.fr; go_wp2_with fail
              refine hK.out _ _ ((hH.set hge _).set hge _) (fun hH9 => ?_)
              clear hK; have hH0 := hH; clear hH; have hH := hH9; clear hH9
              try simp only [Act.put, List.setIfInBounds_toArray, List.set_cons_zero, List.set_cons_succ]
              refine wpAnyH_take_dst (i := 14) (v := .bool true) (d := some 17) rfl rfl (by kernel_rfl) (by kernel_rfl) (by kernel_rfl) (fun _ _ _ h => h) (Or.inl ⟨by rfl, ?_⟩) hH ?_
              · (intro w' hE'; (try dsimp only at hE'); have y0 := Ext.keep hE' HYs.out.c0; have y1 := Ext.keep hE' hd0; have y2 := Ext.keep hE' hd1x; have y3 := Ext.keep hE' hd2x; have y4 := Ext.keep hE' hd3x; go_simp; try with_reducible rfl)
              try simp only [Act.put, List.setIfInBounds_toArray, List.set_cons_zero, List.set_cons_succ]
              refine wpAnyH_done (by kernel_rfl) ?_ _
              exact ⟨_, FB, fd, by rfl, Bx.put hb _ _, hH⟩
          obtain ⟨q1, FB, fd, ha, ⟨hB17, hE17⟩⟩ := hR
          simp only [Act.put, List.setIfInBounds_toArray, List.set_cons_zero, List.set_cons_succ] at ha
          subst ha
          have HYt := Lib.hid (HYs.out.ext hE17)
          have HQt := Lib.hid (RP.ext HQs.out hE17)
          have HEt := Lib.hid (Ext.trans HEs.out hE17)
          have HB17 := Lib.hid hB17
          have HR5 := Lib.hid (RI.ext HR3.out hE17)
          have HR6 := Lib.hid (RI.ext HR4.out hE17)
          have he0 := Ext.keep hE17 hd0
          have he1 := Ext.keep hE17 hd1x
          have he2 := Ext.keep hE17 hd2x
          have he3 := Ext.keep hE17 hd3x
          have hbl17 := World.block_lt_of_cell? w17 _ he0
          clear hB17 HYs HQs HEs HR3 HR4 hd0 hd1x hd2x hd3x
          go_wp2_with fail
          refine wp_only (R := fun (a0 : Act) (a8 : Act) (w9 : World) => ∃ (q2 : Nat) (FB : Option Addr) (fd : Nat), a8 = ((((((((((((((a0.put (some 145) (.pointer (some ⟨p, 0, none⟩))).put (some 146) (.agg #[.slice AS 3 cS])).put (some 147) (.slice AQ 6 cQ)).put (some 148) (.slice (some ⟨b, o, none⟩) n lc)).put (some 149) (.int .i64 (i : Int))).put (some 150) (.pointer (some ⟨b, o + i * 4, none⟩))).put (some 151) (.pointer (some ⟨b, o + i * 4, none⟩))).put (some 152) (.slice A1 n1 c1)).put (some 153) (.tuple #[.agg #[.int .i64 xL, .slice FB lL fd], .bool true])).put (some 144) (.tuple #[.agg #[.int .i64 xL, .slice FB lL fd], .bool true])).put (some 154) (.agg #[.int .i64 xL, .slice FB lL fd])).put (some 155) (.bool true)).put (some 18) (.pointer (some ⟨q2, 0, none⟩))).put (some 19) (.bool true)) ∧ Bx w9 q2 (.int .i64 xL) (.slice FB lL fd) ∧ Ext w17 w9) ?_ (fun a8 w18 hR => ?_)
          · refine wp_region_held_drew (S := (fun w' => Ext w17 w')) (by kernel_rfl) ((Ext.refl w17).drew) (fun hH => ?_)
            refine wpAnyH_take_dst (i := 0) (v := .pointer (some ⟨p, 0, none⟩)) (d := some 145) rfl rfl (by kernel_rfl) (by kernel_rfl) (by kernel_rfl) (fun _ _ _ h => h) (Or.inl ⟨by rfl, ?_⟩) hH ?_
            · (intro w' hE'; (try dsimp only at hE'); have y0 := Ext.keep hE' HYt.out.c0; have y1 := Ext.keep hE' he0; have y2 := Ext.keep hE' he1; have y3 := Ext.keep hE' he2; have y4 := Ext.keep hE' he3; go_simp; try with_reducible rfl)
            try simp only [Act.put, List.setIfInBounds_toArray, List.set_cons_zero, List.set_cons_succ]
            refine wpAnyH_take_dst (i := 1) (v := .agg #[.slice AS 3 cS]) (d := some 146) rfl rfl (by kernel_rfl) (by kernel_rfl) (by kernel_rfl) (fun _ _ _ h => h) (Or.inl ⟨by rfl, ?_⟩) hH ?_
            · (intro w' hE'; (try dsimp only at hE'); have y0 := Ext.keep hE' HYt.out.c0; have y1 := Ext.keep hE' he0; have y2 := Ext.keep hE' he1; have y3 := Ext.keep hE' he2; have y4 := Ext.keep hE' he3; go_simp; try with_reducible rfl)
            try simp only [Act.put, List.setIfInBounds_toArray, List.set_cons_zero, List.set_cons_succ]
            refine wpAnyH_take_dst (i := 2) (v := .slice AQ 6 cQ) (d := some 147) rfl rfl (by kernel_rfl) (by kernel_rfl) (by kernel_rfl) (fun _ _ _ h => h) (Or.inl ⟨by rfl, ?_⟩) hH ?_
            · (intro w' hE'; (try dsimp only at hE'); have y0 := Ext.keep hE' HYt.out.c0; have y1 := Ext.keep hE' he0; have y2 := Ext.keep hE' he1; have y3 := Ext.keep hE' he2; have y4 := Ext.keep hE' he3; go_simp; try with_reducible rfl)
            try simp only [Act.put, List.setIfInBounds_toArray, List.set_cons_zero, List.set_cons_succ]
            refine wpAnyH_take_dst (i := 3) (v := .slice (some ⟨b, o, none⟩) n lc) (d := some 148) rfl rfl (by kernel_rfl) (by kernel_rfl) (by kernel_rfl) (fun _ _ _ h => h) (Or.inl ⟨by rfl, ?_⟩) hH ?_
            · (intro w' hE'; (try dsimp only at hE'); have y0 := Ext.keep hE' HYt.out.c0; have y1 := Ext.keep hE' he0; have y2 := Ext.keep hE' he1; have y3 := Ext.keep hE' he2; have y4 := Ext.keep hE' he3; go_simp; try with_reducible rfl)
            try simp only [Act.put, List.setIfInBounds_toArray, List.set_cons_zero, List.set_cons_succ]
            refine wpAnyH_take_dst (i := 4) (v := .int .i64 (i : Int)) (d := some 149) rfl rfl (by kernel_rfl) (by kernel_rfl) (by kernel_rfl) (fun _ _ _ h => h) (Or.inl ⟨by rfl, ?_⟩) hH ?_
            · (intro w' hE'; (try dsimp only at hE'); have y0 := Ext.keep hE' HYt.out.c0; have y1 := Ext.keep hE' he0; have y2 := Ext.keep hE' he1; have y3 := Ext.keep hE' he2; have y4 := Ext.keep hE' he3; go_simp; try with_reducible rfl)
            try simp only [Act.put, List.setIfInBounds_toArray, List.set_cons_zero, List.set_cons_succ]
            refine wpAnyH_take_dst (i := 5) (v := .pointer (some ⟨b, o + i * 4, none⟩)) (d := some 150) rfl rfl (by kernel_rfl) (by kernel_rfl) (by kernel_rfl) (fun _ _ _ h => h) (Or.inl ⟨by rfl, ?_⟩) hH ?_
            · (intro w' hE'; (try dsimp only at hE'); have y0 := Ext.keep hE' HYt.out.c0; have y1 := Ext.keep hE' he0; have y2 := Ext.keep hE' he1; have y3 := Ext.keep hE' he2; have y4 := Ext.keep hE' he3; go_simp; try with_reducible rfl)
            try simp only [Act.put, List.setIfInBounds_toArray, List.set_cons_zero, List.set_cons_succ]
            refine wpAnyH_take_dst (i := 6) (v := .pointer (some ⟨b, o + i * 4, none⟩)) (d := some 151) rfl rfl (by kernel_rfl) (by kernel_rfl) (by kernel_rfl) (fun _ _ _ h => h) (Or.inl ⟨by rfl, ?_⟩) hH ?_
            · (intro w' hE'; (try dsimp only at hE'); have y0 := Ext.keep hE' HYt.out.c0; have y1 := Ext.keep hE' he0; have y2 := Ext.keep hE' he1; have y3 := Ext.keep hE' he2; have y4 := Ext.keep hE' he3; go_simp; try with_reducible rfl)
            try simp only [Act.put, List.setIfInBounds_toArray, List.set_cons_zero, List.set_cons_succ]
            refine wpAnyH_take_dst (i := 7) (v := .slice A1 n1 c1) (d := some 152) rfl rfl (by kernel_rfl) (by kernel_rfl) (by kernel_rfl) (fun _ _ _ h => h) (Or.inl ⟨by rfl, ?_⟩) hH ?_
            · (intro w' hE'; (try dsimp only at hE'); have y0 := Ext.keep hE' HYt.out.c0; have y1 := Ext.keep hE' he0; have y2 := Ext.keep hE' he1; have y3 := Ext.keep hE' he2; have y4 := Ext.keep hE' he3; go_simp; try with_reducible rfl)
            try simp only [Act.put, List.setIfInBounds_toArray, List.set_cons_zero, List.set_cons_succ]
            refine wpAnyH_ready (rs := [8, 12]) (by kernel_rfl) (by simp) ?_
            refine AllReadyH.cons rfl (fun K hK => ?_) (AllReadyH.cons rfl (fun K hK => ?_) (AllReadyH.nil))
            · rw [if_pos (by rfl)]
              go_wp2_with fail
              (with_reducible refine (c_sHeadB HOL.out HNL.out.1 HNL.out.2.1 HNL.out.2.2 (HYt.out.ext hH).sig (RdPc.mkc hcapQ.1 hcapQ.2 (RP.ext HQt.out hH)) (RdIc.mk hcp1 (RI.ext HR5.out hH))).mono ?_)
              rintro e w9 ⟨FB, fd, rfl, hE8⟩
              refine hK.out _ _ (Ext.trans hH hE8) (fun hH9 => ?_)
              clear hK; have hH0 := hH; clear hH; have hH := hH9; clear hH9
              try simp only [Act.put, List.setIfInBounds_toArray, List.set_cons_zero, List.set_cons_succ]
              refine wpAnyH_take_dst (i := 9) (v := .tuple #[.agg #[.int .i64 xL, .slice FB lL fd], .bool true]) (d := some 144) rfl rfl (by kernel_rfl) (by kernel_rfl) (by kernel_rfl) (fun _ _ _ h => h) (Or.inl ⟨by rfl, ?_⟩) hH ?_
              · (intro w' hE'; (try dsimp only at hE'); have y0 := Ext.keep hE' HYt.out.c0; have y1 := Ext.keep hE' he0; have y2 := Ext.keep hE' he1; have y3 := Ext.keep hE' he2; have y4 := Ext.keep hE' he3; go_simp; try with_reducible rfl)
              try simp only [Act.put, List.setIfInBounds_toArray, List.set_cons_zero, List.set_cons_succ]
              refine wpAnyH_take_dst (i := 10) (v := .agg #[.int .i64 xL, .slice FB lL fd]) (d := some 154) rfl rfl (by kernel_rfl) (by kernel_rfl) (by kernel_rfl) (fun _ _ _ h => h) (Or.inl ⟨by rfl, ?_⟩) hH ?_
              · (intro w' hE'; (try dsimp only at hE'); have y0 := Ext.keep hE' HYt.out.c0; have y1 := Ext.keep hE' he0; have y2 := Ext.keep hE' he1; have y3 := Ext.keep hE' he2; have y4 := Ext.keep hE' he3; go_simp; try with_reducible rfl)
              try simp only [Act.put, List.setIfInBounds_toArray, List.set_cons_zero, List.set_cons_succ]
              refine wpAnyH_take_dst (i := 11) (v := .bool true) (d := some 155) rfl rfl (by kernel_rfl) (by kernel_rfl) (by kernel_rfl) (fun _ _ _ h => h) (Or.inl ⟨by rfl, ?_⟩) hH ?_
              · (intro w' hE'; (try dsimp only at hE'); have y0 := Ext.keep hE' HYt.out.c0; have y1 := Ext.keep hE' he0; have y2 := Ext.keep hE' he1; have y3 := Ext.keep hE' he2; have y4 := Ext.keep hE' he3; go_simp; try with_reducible rfl)
              try simp only [Act.put, List.setIfInBounds_toArray, List.set_cons_zero, List.set_cons_succ]
              refine wpAnyH_ready (rs := [12]) (by kernel_rfl) (by simp) ?_
              refine AllReadyH.cons rfl (fun K hK => ?_) AllReadyH.nil
              rw [if_pos (by rfl)]
              have hB := bx_of hH; go_wp2_with fail
              refine hK.out _ _ (hH.alloc _) (fun hH9 => ?_)
              clear hK; have hH0 := hH; clear hH; have hH := hH9; clear hH9
              try simp only [Act.put, List.setIfInBounds_toArray, List.set_cons_zero, List.set_cons_succ]
              refine wpAnyH_ready (rs := [13]) (by kernel_rfl) (by simp) ?_
              refine AllReadyH.cons rfl (fun K hK => ?_) AllReadyH.nil
              rw [if_pos (by rfl)]
              go_wp2_with fail
              refine hK.out _ _ (hH0.alloc _) (fun hH9 => ?_)
              clear hK; have hH0 := hH; clear hH; have hH := hH9; clear hH9
              try simp only [Act.put, List.setIfInBounds_toArray, List.set_cons_zero, List.set_cons_succ]
              refine wpAnyH_take_dst (i := 14) (v := .bool true) (d := some 19) rfl rfl (by kernel_rfl) (by kernel_rfl) (by kernel_rfl) (fun _ _ _ h => h) (Or.inl ⟨by rfl, ?_⟩) hH ?_
              · (intro w' hE'; (try dsimp only at hE'); have y0 := Ext.keep hE' HYt.out.c0; have y1 := Ext.keep hE' he0; have y2 := Ext.keep hE' he1; have y3 := Ext.keep hE' he2; have y4 := Ext.keep hE' he3; go_simp; try with_reducible rfl)
              try simp only [Act.put, List.setIfInBounds_toArray, List.set_cons_zero, List.set_cons_succ]
              refine wpAnyH_done (by kernel_rfl) ?_ _
              exact ⟨w9.heap.size, FB, fd, by rfl, Bx.new _ _ _ _ rfl, hH⟩
            · rw [if_pos (by rfl)]
              have hB := bx_of hH; go_wp2_with fail
              refine hK.out _ _ (hH.alloc _) (fun hH9 => ?_)
              clear hK; have hH0 := hH; clear hH; have hH := hH9; clear hH9
              try simp only [Act.put, List.setIfInBounds_toArray, List.set_cons_zero, List.set_cons_succ]
              refine wpAnyH_ready (rs := [8]) (by kernel_rfl) (by simp) ?_
              refine AllReadyH.cons rfl (fun K hK => ?_) AllReadyH.nil
              rw [if_pos (by rfl)]
              go_wp2_with fail
              (with_reducible refine (c_sHeadB HOL.out HNL.out.1 HNL.out.2.1 HNL.out.2.2 (HYt.out.ext hH).sig (RdPc.mkc hcapQ.1 hcapQ.2 (RP.ext HQt.out hH)) (RdIc.mk hcp1 (RI.ext HR5.out hH))).mono ?_)
              rintro e w9 ⟨FB, fd, rfl, hE8⟩
              refine hK.out _ _ (Ext.trans hH hE8) (fun hH9 => ?_)
              clear hK; have hH0 := hH; clear hH; have hH := hH9; clear hH9
              try simp only [Act.put, List.setIfInBounds_toArray, List.set_cons_zero, List.set_cons_succ]
              refine wpAnyH_take_dst (i := 9) (v := .tuple #[.agg #[.int .i64 xL, .slice FB lL fd], .bool true]) (d := some 144) rfl rfl (by kernel_rfl) (by kernel_rfl) (by kernel_rfl) (fun _ _ _ h => h) (Or.inl ⟨by rfl, ?_⟩) hH ?_
              · (intro w' hE'; (try dsimp only at hE'); have y0 := Ext.keep hE' HYt.out.c0; have y1 := Ext.keep hE' he0; have y2 := Ext.keep hE' he1; have y3 := Ext.keep hE' he2; have y4 := Ext.keep hE' he3; go_simp; try with_reducible rfl)
              try simp only [Act.put, List.setIfInBounds_toArray, List.set_cons_zero, List.set_cons_succ]
              refine wpAnyH_take_dst (i := 10) (v := .agg #[.int .i64 xL, .slice FB lL fd]) (d := some 154) rfl rfl (by kernel_rfl) (by kernel_rfl) (by kernel_rfl) (fun _ _ _ h => h) (Or.inl ⟨by rfl, ?_⟩) hH ?_
              · (intro w' hE'; (try dsimp only at hE'); have y0 := Ext.keep hE' HYt.out.c0; have y1 := Ext.keep hE' he0; have y2 := Ext.keep hE' he1; have y3 := Ext.keep hE' he2; have y4 := Ext.keep hE' he3; go_simp; try with_reducible rfl)
              try simp only [Act.put, List.setIfInBounds_toArray, List.set_cons_zero, List.set_cons_succ]
              refine wpAnyH_take_dst (i := 11) (v := .bool true) (d := some 155) rfl rfl (by kernel_rfl) (by kernel_rfl) (by kernel_rfl) (fun _ _ _ h => h) (Or.inl ⟨by rfl, ?_⟩) hH ?_
              · (intro w' hE'; (try dsimp only at hE'); have y0 := Ext.keep hE' HYt.out.c0; have y1 := Ext.keep hE' he0; have y2 := Ext.keep hE' he1; have y3 := Ext.keep hE' he2; have y4 := Ext.keep hE' he3; go_simp; try with_reducible rfl)
              try simp only [Act.put, List.setIfInBounds_toArray, List.set_cons_zero, List.set_cons_succ]
              refine wpAnyH_ready (rs := [13]) (by kernel_rfl) (by simp) ?_
              refine AllReadyH.cons rfl (fun K hK => ?_) AllReadyH.nil
              rw [if_pos (by rfl)]
              obtain ⟨hb0, hge⟩ := hB w17.heap.size (by go_size); have hb := Bx.ext hb0 hE8; have k0 := hb.c0; have k1 := hb.c1; have kf := hb.fr; go_wp2_with fail
              refine hK.out _ _ ((hH.set hge _).set hge _) (fun hH9 => ?_)
              clear hK; have hH0 := hH; clear hH; have hH := hH9; clear hH9
              try simp only [Act.put, List.setIfInBounds_toArray, List.set_cons_zero, List.set_cons_succ]
              refine wpAnyH_take_dst (i := 14) (v := .bool true) (d := some 19) rfl rfl (by kernel_rfl) (by kernel_rfl) (by kernel_rfl) (fun _ _ _ h => h) (Or.inl ⟨by rfl, ?_⟩) hH ?_
              · (intro w' hE'; (try dsimp only at hE'); have y0 := Ext.keep hE' HYt.out.c0; have y1 := Ext.keep hE' he0; have y2 := Ext.keep hE' he1; have y3 := Ext.keep hE' he2; have y4 := Ext.keep hE' he3; go_simp; try with_reducible rfl)
              try simp only [Act.put, List.setIfInBounds_toArray, List.set_cons_zero, List.set_cons_succ]
              refine wpAnyH_done (by kernel_rfl) ?_ _
              exact ⟨_, FB, fd, by rfl, Bx.put hb _ _, hH⟩
          obtain ⟨q2, FB, fd, ha, ⟨hB18, hE18⟩⟩ := hR
          simp only [Act.put, List.setIfInBounds_toArray, List.set_cons_zero, List.set_cons_succ] at ha
          subst ha
          have HYu := Lib.hid (HYt.out.ext hE18)
          have HQu := Lib.hid (RP.ext HQt.out hE18)
          have HEu := Lib.hid (Ext.trans HEt.out hE18)
          have HC18 := Lib.hid hB18
          have HB18 := Lib.hid (HB17.out.ext hE18)
          have HR7 := Lib.hid (RI.ext HR5.out hE18)
          have HR8 := Lib.hid (RI.ext HR6.out hE18)
          have hf0 := Ext.keep hE18 he0
          have hf1 := Ext.keep hE18 he1
          have hf2 := Ext.keep hE18 he2
          have hf3 := Ext.keep hE18 he3
          have hbl18 := World.block_lt_of_cell? w18 _ hf0
          clear hB18 HYt HQt HEt HR5 HR6 he0 he1 he2 he3 HB17
          go_wp2_with fail
          refine wp_only (R := fun (a0 : Act) (a8 : Act) (w9 : World) => a8 = (((((((((((((((((((((((a0.put (some 156) (.pointer (some ⟨p, 0, none⟩))).put (some 157) (.agg #[.slice AS 3 cS])).put (some 158) (.slice AQ 6 cQ)).put (some 159) (.slice (some ⟨b, o, none⟩) n lc)).put (some 160) (.int .i64 (i : Int))).put (some 161) (.pointer (some ⟨b, o + i * 4, none⟩))).put (some 162) (.agg #[.slice A1 n1 c1, .slice A2 n2 c2, .int .i64 pq.rule, .int .i64 pq.at_])).put (some 163) (.bool true)).put (some 164) (.bool true)).put (some 165) (.bool true)).put (some 166) (.bool false)).put (some 167) (.bool false)).put (some 168) (.bool true)).put (some 169) (.bool false)).put (some 170) (.bool false)).put (some 171) (.bool false)).put (some 172) (.pointer (some ⟨q1, 0, none⟩))).put (some 173) (.int .i64 xR)).put (some 174) (.pointer (some ⟨q2, 0, none⟩))).put (some 175) (.int .i64 xL)).put (some 176) (.bool false)).put (some 177) (.bool false)).put (some 178) (.bool false)) ∧ Ext w18 w9) ?_ (fun a8 w19 hR => ?_)
          · refine wp_region_held_drew (S := (fun w' => Ext w18 w')) (by kernel_rfl) ((Ext.refl w18).drew) (fun hH => ?_)
            refine wpAnyH_take_dst (i := 0) (v := .pointer (some ⟨p, 0, none⟩)) (d := some 156) rfl rfl (by kernel_rfl) (by kernel_rfl) (by kernel_rfl) (fun _ _ _ h => h) (Or.inl ⟨by rfl, ?_⟩) hH ?_
            · (intro w' hE'; (try dsimp only at hE'); have y0 := Ext.keep hE' HYu.out.c0; have y1 := Ext.keep hE' hf0; have y2 := Ext.keep hE' hf1; have y3 := Ext.keep hE' hf2; have y4 := Ext.keep hE' hf3; have y5 := Ext.keep hE' HB18.out.c0; have y6 := Ext.keep hE' HC18.out.c0; go_simp; try with_reducible rfl)
            try simp only [Act.put, List.setIfInBounds_toArray, List.set_cons_zero, List.set_cons_succ]
            refine wpAnyH_take_dst (i := 1) (v := .agg #[.slice AS 3 cS]) (d := some 157) rfl rfl (by kernel_rfl) (by kernel_rfl) (by kernel_rfl) (fun _ _ _ h => h) (Or.inl ⟨by rfl, ?_⟩) hH ?_
            · (intro w' hE'; (try dsimp only at hE'); have y0 := Ext.keep hE' HYu.out.c0; have y1 := Ext.keep hE' hf0; have y2 := Ext.keep hE' hf1; have y3 := Ext.keep hE' hf2; have y4 := Ext.keep hE' hf3; have y5 := Ext.keep hE' HB18.out.c0; have y6 := Ext.keep hE' HC18.out.c0; go_simp; try with_reducible rfl)
            try simp only [Act.put, List.setIfInBounds_toArray, List.set_cons_zero, List.set_cons_succ]
            refine wpAnyH_take_dst (i := 2) (v := .slice AQ 6 cQ) (d := some 158) rfl rfl (by kernel_rfl) (by kernel_rfl) (by kernel_rfl) (fun _ _ _ h => h) (Or.inl ⟨by rfl, ?_⟩) hH ?_
            · (intro w' hE'; (try dsimp only at hE'); have y0 := Ext.keep hE' HYu.out.c0; have y1 := Ext.keep hE' hf0; have y2 := Ext.keep hE' hf1; have y3 := Ext.keep hE' hf2; have y4 := Ext.keep hE' hf3; have y5 := Ext.keep hE' HB18.out.c0; have y6 := Ext.keep hE' HC18.out.c0; go_simp; try with_reducible rfl)
            try simp only [Act.put, List.setIfInBounds_toArray, List.set_cons_zero, List.set_cons_succ]
            refine wpAnyH_take_dst (i := 3) (v := .slice (some ⟨b, o, none⟩) n lc) (d := some 159) rfl rfl (by kernel_rfl) (by kernel_rfl) (by kernel_rfl) (fun _ _ _ h => h) (Or.inl ⟨by rfl, ?_⟩) hH ?_
            · (intro w' hE'; (try dsimp only at hE'); have y0 := Ext.keep hE' HYu.out.c0; have y1 := Ext.keep hE' hf0; have y2 := Ext.keep hE' hf1; have y3 := Ext.keep hE' hf2; have y4 := Ext.keep hE' hf3; have y5 := Ext.keep hE' HB18.out.c0; have y6 := Ext.keep hE' HC18.out.c0; go_simp; try with_reducible rfl)
            try simp only [Act.put, List.setIfInBounds_toArray, List.set_cons_zero, List.set_cons_succ]
            refine wpAnyH_take_dst (i := 4) (v := .int .i64 (i : Int)) (d := some 160) rfl rfl (by kernel_rfl) (by kernel_rfl) (by kernel_rfl) (fun _ _ _ h => h) (Or.inl ⟨by rfl, ?_⟩) hH ?_
            · (intro w' hE'; (try dsimp only at hE'); have y0 := Ext.keep hE' HYu.out.c0; have y1 := Ext.keep hE' hf0; have y2 := Ext.keep hE' hf1; have y3 := Ext.keep hE' hf2; have y4 := Ext.keep hE' hf3; have y5 := Ext.keep hE' HB18.out.c0; have y6 := Ext.keep hE' HC18.out.c0; go_simp; try with_reducible rfl)
            try simp only [Act.put, List.setIfInBounds_toArray, List.set_cons_zero, List.set_cons_succ]
            refine wpAnyH_take_dst (i := 5) (v := .pointer (some ⟨b, o + i * 4, none⟩)) (d := some 161) rfl rfl (by kernel_rfl) (by kernel_rfl) (by kernel_rfl) (fun _ _ _ h => h) (Or.inl ⟨by rfl, ?_⟩) hH ?_
            · (intro w' hE'; (try dsimp only at hE'); have y0 := Ext.keep hE' HYu.out.c0; have y1 := Ext.keep hE' hf0; have y2 := Ext.keep hE' hf1; have y3 := Ext.keep hE' hf2; have y4 := Ext.keep hE' hf3; have y5 := Ext.keep hE' HB18.out.c0; have y6 := Ext.keep hE' HC18.out.c0; go_simp; try with_reducible rfl)
            try simp only [Act.put, List.setIfInBounds_toArray, List.set_cons_zero, List.set_cons_succ]
            refine wpAnyH_take_dst (i := 6) (v := .agg #[.slice A1 n1 c1, .slice A2 n2 c2, .int .i64 pq.rule, .int .i64 pq.at_]) (d := some 162) rfl rfl (by kernel_rfl) (by kernel_rfl) (by kernel_rfl) (fun _ _ _ h => h) (Or.inl ⟨by rfl, ?_⟩) hH ?_
            · (intro w' hE'; (try dsimp only at hE'); have y0 := Ext.keep hE' HYu.out.c0; have y1 := Ext.keep hE' hf0; have y2 := Ext.keep hE' hf1; have y3 := Ext.keep hE' hf2; have y4 := Ext.keep hE' hf3; have y5 := Ext.keep hE' HB18.out.c0; have y6 := Ext.keep hE' HC18.out.c0; go_simp; try with_reducible rfl)
            try simp only [Act.put, List.setIfInBounds_toArray, List.set_cons_zero, List.set_cons_succ]
            refine wpAnyH_ready (rs := [7]) (by kernel_rfl) (by simp) ?_
            refine AllReadyH.cons rfl (fun K hK => ?_) AllReadyH.nil
            rw [if_pos (by rfl)]
            go_wp2_with fail
            (with_reducible refine (c_pairLessB HLT.out (HYu.out.ext hH).sig (RdPc.mkc hcapQ.1 hcapQ.2 (RP.ext HQu.out hH)) (RdDp.mk hcp1 hcp2 (RI.ext HR7.out hH) (RI.ext HR8.out hH))).mono ?_)
            rintro e w9 ⟨rfl, hE9⟩
            refine hK.out _ _ (Ext.trans hH hE9) (fun hH9 => ?_)
            clear hK; have hH0 := hH; clear hH; have hH := hH9; clear hH9
            try simp only [Act.put, List.setIfInBounds_toArray, List.set_cons_zero, List.set_cons_succ]
            refine wpAnyH_take_dst (i := 8) (v := .bool true) (d := some 164) rfl rfl (by kernel_rfl) (by kernel_rfl) (by kernel_rfl) (fun _ _ _ h => h) (Or.inl ⟨by rfl, ?_⟩) hH ?_
            · (intro w' hE'; (try dsimp only at hE'); have y0 := Ext.keep hE' HYu.out.c0; have y1 := Ext.keep hE' hf0; have y2 := Ext.keep hE' hf1; have y3 := Ext.keep hE' hf2; have y4 := Ext.keep hE' hf3; have y5 := Ext.keep hE' HB18.out.c0; have y6 := Ext.keep hE' HC18.out.c0; go_simp; try with_reducible rfl)
            try simp only [Act.put, List.setIfInBounds_toArray, List.set_cons_zero, List.set_cons_succ]
            refine wpAnyH_take_dst (i := 9) (v := .bool true) (d := some 165) rfl rfl (by kernel_rfl) (by kernel_rfl) (by kernel_rfl) (fun _ _ _ h => h) (Or.inl ⟨by rfl, ?_⟩) hH ?_
            · (intro w' hE'; (try dsimp only at hE'); have y0 := Ext.keep hE' HYu.out.c0; have y1 := Ext.keep hE' hf0; have y2 := Ext.keep hE' hf1; have y3 := Ext.keep hE' hf2; have y4 := Ext.keep hE' hf3; have y5 := Ext.keep hE' HB18.out.c0; have y6 := Ext.keep hE' HC18.out.c0; go_simp; try with_reducible rfl)
            try simp only [Act.put, List.setIfInBounds_toArray, List.set_cons_zero, List.set_cons_succ]
            refine wpAnyH_take_dst (i := 10) (v := .bool false) (d := some 166) rfl rfl (by kernel_rfl) (by kernel_rfl) (by kernel_rfl) (fun _ _ _ h => h) (Or.inl ⟨by rfl, ?_⟩) hH ?_
            · (intro w' hE'; (try dsimp only at hE'); have y0 := Ext.keep hE' HYu.out.c0; have y1 := Ext.keep hE' hf0; have y2 := Ext.keep hE' hf1; have y3 := Ext.keep hE' hf2; have y4 := Ext.keep hE' hf3; have y5 := Ext.keep hE' HB18.out.c0; have y6 := Ext.keep hE' HC18.out.c0; go_simp; try with_reducible rfl)
            try simp only [Act.put, List.setIfInBounds_toArray, List.set_cons_zero, List.set_cons_succ]
            refine wpAnyH_take_dst (i := 11) (v := .bool false) (d := some 167) rfl rfl (by kernel_rfl) (by kernel_rfl) (by kernel_rfl) (fun _ _ _ h => h) (Or.inl ⟨by rfl, ?_⟩) hH ?_
            · (intro w' hE'; (try dsimp only at hE'); have y0 := Ext.keep hE' HYu.out.c0; have y1 := Ext.keep hE' hf0; have y2 := Ext.keep hE' hf1; have y3 := Ext.keep hE' hf2; have y4 := Ext.keep hE' hf3; have y5 := Ext.keep hE' HB18.out.c0; have y6 := Ext.keep hE' HC18.out.c0; go_simp; try with_reducible rfl)
            try simp only [Act.put, List.setIfInBounds_toArray, List.set_cons_zero, List.set_cons_succ]
            refine wpAnyH_take_dst (i := 12) (v := .bool true) (d := some 168) rfl rfl (by kernel_rfl) (by kernel_rfl) (by kernel_rfl) (fun _ _ _ h => h) (Or.inl ⟨by rfl, ?_⟩) hH ?_
            · (intro w' hE'; (try dsimp only at hE'); have y0 := Ext.keep hE' HYu.out.c0; have y1 := Ext.keep hE' hf0; have y2 := Ext.keep hE' hf1; have y3 := Ext.keep hE' hf2; have y4 := Ext.keep hE' hf3; have y5 := Ext.keep hE' HB18.out.c0; have y6 := Ext.keep hE' HC18.out.c0; go_simp; try with_reducible rfl)
            try simp only [Act.put, List.setIfInBounds_toArray, List.set_cons_zero, List.set_cons_succ]
            refine wpAnyH_take_dst (i := 13) (v := .bool false) (d := some 169) rfl rfl (by kernel_rfl) (by kernel_rfl) (by kernel_rfl) (fun _ _ _ h => h) (Or.inl ⟨by rfl, ?_⟩) hH ?_
            · (intro w' hE'; (try dsimp only at hE'); have y0 := Ext.keep hE' HYu.out.c0; have y1 := Ext.keep hE' hf0; have y2 := Ext.keep hE' hf1; have y3 := Ext.keep hE' hf2; have y4 := Ext.keep hE' hf3; have y5 := Ext.keep hE' HB18.out.c0; have y6 := Ext.keep hE' HC18.out.c0; go_simp; try with_reducible rfl)
            try simp only [Act.put, List.setIfInBounds_toArray, List.set_cons_zero, List.set_cons_succ]
            refine wpAnyH_take_dst (i := 14) (v := .bool false) (d := some 170) rfl rfl (by kernel_rfl) (by kernel_rfl) (by kernel_rfl) (fun _ _ _ h => h) (Or.inl ⟨by rfl, ?_⟩) hH ?_
            · (intro w' hE'; (try dsimp only at hE'); have y0 := Ext.keep hE' HYu.out.c0; have y1 := Ext.keep hE' hf0; have y2 := Ext.keep hE' hf1; have y3 := Ext.keep hE' hf2; have y4 := Ext.keep hE' hf3; have y5 := Ext.keep hE' HB18.out.c0; have y6 := Ext.keep hE' HC18.out.c0; go_simp; try with_reducible rfl)
            try simp only [Act.put, List.setIfInBounds_toArray, List.set_cons_zero, List.set_cons_succ]
            refine wpAnyH_take_dst (i := 15) (v := .bool false) (d := some 171) rfl rfl (by kernel_rfl) (by kernel_rfl) (by kernel_rfl) (fun _ _ _ h => h) (Or.inl ⟨by rfl, ?_⟩) hH ?_
            · (intro w' hE'; (try dsimp only at hE'); have y0 := Ext.keep hE' HYu.out.c0; have y1 := Ext.keep hE' hf0; have y2 := Ext.keep hE' hf1; have y3 := Ext.keep hE' hf2; have y4 := Ext.keep hE' hf3; have y5 := Ext.keep hE' HB18.out.c0; have y6 := Ext.keep hE' HC18.out.c0; go_simp; try with_reducible rfl)
            try simp only [Act.put, List.setIfInBounds_toArray, List.set_cons_zero, List.set_cons_succ]
            refine wpAnyH_take_dst (i := 16) (v := .pointer (some ⟨q1, 0, none⟩)) (d := some 172) rfl rfl (by kernel_rfl) (by kernel_rfl) (by kernel_rfl) (fun _ _ _ h => h) (Or.inl ⟨by rfl, ?_⟩) hH ?_
            · (intro w' hE'; (try dsimp only at hE'); have y0 := Ext.keep hE' HYu.out.c0; have y1 := Ext.keep hE' hf0; have y2 := Ext.keep hE' hf1; have y3 := Ext.keep hE' hf2; have y4 := Ext.keep hE' hf3; have y5 := Ext.keep hE' HB18.out.c0; have y6 := Ext.keep hE' HC18.out.c0; go_simp; try with_reducible rfl)
            try simp only [Act.put, List.setIfInBounds_toArray, List.set_cons_zero, List.set_cons_succ]
            refine wpAnyH_take_dst (i := 17) (v := .int .i64 xR) (d := some 173) rfl rfl (by kernel_rfl) (by kernel_rfl) (by kernel_rfl) (fun _ _ _ h => h) (Or.inl ⟨by rfl, ?_⟩) hH ?_
            · (intro w' hE'; (try dsimp only at hE'); have y0 := Ext.keep hE' HYu.out.c0; have y1 := Ext.keep hE' hf0; have y2 := Ext.keep hE' hf1; have y3 := Ext.keep hE' hf2; have y4 := Ext.keep hE' hf3; have y5 := Ext.keep hE' HB18.out.c0; have y6 := Ext.keep hE' HC18.out.c0; go_simp; try with_reducible rfl)
            try simp only [Act.put, List.setIfInBounds_toArray, List.set_cons_zero, List.set_cons_succ]
            refine wpAnyH_take_dst (i := 18) (v := .pointer (some ⟨q2, 0, none⟩)) (d := some 174) rfl rfl (by kernel_rfl) (by kernel_rfl) (by kernel_rfl) (fun _ _ _ h => h) (Or.inl ⟨by rfl, ?_⟩) hH ?_
            · (intro w' hE'; (try dsimp only at hE'); have y0 := Ext.keep hE' HYu.out.c0; have y1 := Ext.keep hE' hf0; have y2 := Ext.keep hE' hf1; have y3 := Ext.keep hE' hf2; have y4 := Ext.keep hE' hf3; have y5 := Ext.keep hE' HB18.out.c0; have y6 := Ext.keep hE' HC18.out.c0; go_simp; try with_reducible rfl)
            try simp only [Act.put, List.setIfInBounds_toArray, List.set_cons_zero, List.set_cons_succ]
            refine wpAnyH_take_dst (i := 19) (v := .int .i64 xL) (d := some 175) rfl rfl (by kernel_rfl) (by kernel_rfl) (by kernel_rfl) (fun _ _ _ h => h) (Or.inl ⟨by rfl, ?_⟩) hH ?_
            · (intro w' hE'; (try dsimp only at hE'); have y0 := Ext.keep hE' HYu.out.c0; have y1 := Ext.keep hE' hf0; have y2 := Ext.keep hE' hf1; have y3 := Ext.keep hE' hf2; have y4 := Ext.keep hE' hf3; have y5 := Ext.keep hE' HB18.out.c0; have y6 := Ext.keep hE' HC18.out.c0; go_simp; try with_reducible rfl)
            try simp only [Act.put, List.setIfInBounds_toArray, List.set_cons_zero, List.set_cons_succ]
            refine wpAnyH_take_dst (i := 20) (v := .bool false) (d := some 176) rfl rfl (by kernel_rfl) (by kernel_rfl) (by kernel_rfl) (fun _ _ _ h => h) (Or.inl ⟨by rfl, ?_⟩) hH ?_
            · (intro w' hE'; (try dsimp only at hE'); have y0 := Ext.keep hE' HYu.out.c0; have y1 := Ext.keep hE' hf0; have y2 := Ext.keep hE' hf1; have y3 := Ext.keep hE' hf2; have y4 := Ext.keep hE' hf3; have y5 := Ext.keep hE' HB18.out.c0; have y6 := Ext.keep hE' HC18.out.c0; go_simp; try with_reducible rfl)
            try simp only [Act.put, List.setIfInBounds_toArray, List.set_cons_zero, List.set_cons_succ]
            refine wpAnyH_take_dst (i := 21) (v := .bool false) (d := some 177) rfl rfl (by kernel_rfl) (by kernel_rfl) (by kernel_rfl) (fun _ _ _ h => h) (Or.inl ⟨by rfl, ?_⟩) hH ?_
            · (intro w' hE'; (try dsimp only at hE'); have y0 := Ext.keep hE' HYu.out.c0; have y1 := Ext.keep hE' hf0; have y2 := Ext.keep hE' hf1; have y3 := Ext.keep hE' hf2; have y4 := Ext.keep hE' hf3; have y5 := Ext.keep hE' HB18.out.c0; have y6 := Ext.keep hE' HC18.out.c0; go_simp; try with_reducible rfl)
            try simp only [Act.put, List.setIfInBounds_toArray, List.set_cons_zero, List.set_cons_succ]
            refine wpAnyH_take_dst (i := 22) (v := .bool false) (d := some 178) rfl rfl (by kernel_rfl) (by kernel_rfl) (by kernel_rfl) (fun _ _ _ h => h) (Or.inl ⟨by rfl, ?_⟩) hH ?_
            · (intro w' hE'; (try dsimp only at hE'); have y0 := Ext.keep hE' HYu.out.c0; have y1 := Ext.keep hE' hf0; have y2 := Ext.keep hE' hf1; have y3 := Ext.keep hE' hf2; have y4 := Ext.keep hE' hf3; have y5 := Ext.keep hE' HB18.out.c0; have y6 := Ext.keep hE' HC18.out.c0; go_simp; try with_reducible rfl)
            try simp only [Act.put, List.setIfInBounds_toArray, List.set_cons_zero, List.set_cons_succ]
            refine wpAnyH_done (by kernel_rfl) ?_ _
            exact ⟨by rfl, hH⟩
          obtain ⟨ha, hE19⟩ := hR
          simp only [Act.put, List.setIfInBounds_toArray, List.set_cons_zero, List.set_cons_succ] at ha
          subst ha
          go_wp2_with fail
          go_roundw
          case rel => exact ⟨i + 1, by go_num, HIN.out, Ext.trans hErr (Ext.trans hE16 (Ext.trans hE17 (Ext.trans hE18 hE19)))⟩
          case measure => (have h9 := HIN.out); simp only [intOf]; omega
      · go_wp2_with fail
        go_ret
        exact ⟨rfl, Ext.trans HE15.out hE⟩

set_option maxRecDepth 100000 in
theorem lifted (os : Os) (started : os.Started) (H : Type) (enc : TypeId × Value → H) :
    ReturnsInHanded {} Try.checked os 4 .any (Rows.fnHeadFormsSpec.pre6 enc Try.prog Try.f4 Rows.fnHeadFormsRow.domain false) (Rows.fnHeadFormsSpec.post enc Try.prog Try.f4 false true false false) := by
  refine returnsInHanded_of_change (C := Try.checked) own started (by kernel_rfl) Try.func4
    (ChangeSpec.witness6 (enc := enc) (C := Try.checked) false ⟨#[], #[.slice none 0 0], []⟩ 8 (by kernel_rfl) (by kernel_rfl) (by kernel_rfl) (by kernel_rfl)) ?_
  intro W base args ds gs before hval0 hW hcnd _
  have hval : ∀ (j : Nat) t v, Try.f4.params[j]? = some t → args[j]? = some v → Value.okWide Try.prog W .any base t v := hval0
  have hW' := hW
  obtain ⟨p, q, hA0, hV, rfl, hfz, hnd⟩ := hW
  have hA : DataW.TrodAll enc Try.prog W 0 (fun _ => true) true Try.f4.params.toList args.toList ds p := hA0
  rw [Try.params4] at hA hval
  obtain ⟨v0, vs0, d0, ds0, p0, q0, hargs, rfl, rfl, h0, r0⟩ := trodAll_cons hA
  obtain ⟨rfl, rfl, rfl⟩ := trodAll_nil r0
  obtain rfl : args = #[v0] := by cases args; simp_all
  obtain ⟨rfl, rfl⟩ := trodVars_none hV
  have k0 := h0
  have lt0 : ∀ x ∈ p0, x.block < W.heap.size := by obtain ⟨m, hm⟩ := k0; exact DataW.trod_lt m _ _ _ hm
  obtain ⟨x0, w0⟩ := raw_By (hval 0 22 v0 rfl rfl) h0
  clear hA0 hval0
  refine (walk w0).mono fun e W' ⟨he, bel⟩ => ?_
  subst he
  exact ⟨_, rfl, _, _, _, [], _, [], hW', trodAll_mk1 (shut_bool Try.underlying4 _), (trodAll_cons_mk (Below.trod laidOut (by kernel_rfl) (of_decide_eq_true (by kernel_rfl)) k0 bel lt0) trodAll_mk0), rfl, bel.frame _, fun h => by cases h⟩

theorem over : Rows.fnHeadFormsRow.holds Try.pinned (OpenSpec.ofChange Rows.fnHeadFormsSpec) :=
  OpenClaim.holds_of_wide 4 Try.f4 rfl rfl rfl rfl rfl rfl rfl ⟨rfl, rfl, rfl, rfl, rfl⟩ rfl rfl rfl rfl rfl (by kernel_rfl) Try.func4 (by kernel_rfl)
    (of_decide_eq_true (by kernel_rfl)) (by unfold Func.isWrapper; first | (rw [if_pos (by decide +kernel)]; kernel_rfl) | (rw [if_neg (by decide +kernel)]; exact ⟨rfl, rfl⟩))
    (fun os started H enc _ => lifted os started H enc)

theorem proved : Rows.FnHeadFormsSaid := over

end Go.Proofs.Ytljbjabgdalabaa.FnHeadForms
