/- Proved: for every input the law FnProjections returns true, does not panic, and its argument reads afterwards as it read before. Conditions: none. -/
import Derived.Test.YtccahngnnfohcaaHeld
import Derived.Test.YtccahngnnfohcaaOpenBy
import Derived.Test.YtccahngnnfohcaaFPr
import Derived.Test.YtccahngnnfohcaaSubA
import Derived.Test.YtccahngnnfohcaaDicSy
-- rd: RdSyK
namespace Go.Proofs.Ytccahngnnfohcaa.FnProjections
open Go.ChangeShapes Go.WideShapes Go.ChangeAt Go.RowKit
set_option linter.unusedSimpArgs false
set_option linter.unusedVariables false
set_option linter.constructorNameAsVariable false

abbrev arU : List Int := [2, 1, 0]
theorem OwE.onlyD {w w' : World} {g B top n c : Nat} {A : Option Addr} {ps : List DepP} (h : OwE w B top A n c ps) (k : Only w w' g) (hg : g < B) : OwE w' B top A n c ps := by
  have hob := h.ob
  obtain ⟨h1, G, C, h2, h3⟩ := h
  refine ⟨h1, G, C, ownsRow_heap h2 (fun b e => ?_), fun i q hq => ?_⟩
  · have hb := hob b e
    exact k.block b hb.2 (fun e => by have e2 : b = g := Option.some.inj e; omega)
  · obtain ⟨⟨k1, k2⟩, k3, k4⟩ := h3 i q hq
    exact ⟨⟨k1.only k hg, k2⟩, k3.only k hg, k4⟩
theorem args_cell {w : World} {A : Option Addr} {n i a : Nat} {xs : List Int} (h : RI w A n xs) (hx : xs[i]? = some (a : Int)) : ∃ b o, A = some ⟨b, o, none⟩ ∧ w.cell? ⟨b, o + i, none⟩ = some (.int .i64 (a : Int)) := by
  have hi := (List.getElem?_eq_some_iff.1 hx).1
  obtain ⟨b, o, e, hc⟩ := h.2 (by have := h.len; omega)
  exact ⟨b, o, e, hc i _ hx⟩
theorem prjGo_mem {ar pj : List Int} {ps : List DepP} : ∀ {set out res : List Int}, prjGo ar pj ps set out = some res → ∀ z ∈ res, z ∈ out ∨ (z ∈ set ∧ ∃ q, ps[z.toNat]? = some q ∧ prjSt ar pj q = some true)
  | [], out, res, h, z, hz => by rw [prjGo] at h; cases h; exact .inl hz
  | n :: ns, out, res, h, z, hz => by
    rw [prjGo] at h
    cases hq : ps[n.toNat]? with
    | none => rw [hq] at h; cases h
    | some q =>
      rw [hq] at h
      simp only at h
      cases hs : prjSt ar pj q with
      | none => rw [hs] at h; cases h
      | some b =>
        rw [hs] at h
        cases b with
        | true =>
          rcases prjGo_mem h z hz with h1 | ⟨h1, h2⟩
          · rcases List.mem_append.1 h1 with h1 | h1
            · exact .inl h1
            · rw [List.mem_singleton] at h1; subst h1
              exact .inr ⟨List.mem_cons_self .., q, hq, hs⟩
          · exact .inr ⟨List.mem_cons_of_mem _ h1, h2⟩
        | false =>
          rcases prjGo_mem h z hz with h1 | ⟨h1, h2⟩
          · exact .inl h1
          · exact .inr ⟨List.mem_cons_of_mem _ h1, h2⟩
theorem srch_some {T : List Int → Prop} {ls hs : List Int} : ∀ {k : Nat} {xs o : List Int}, Btw xs ls hs → srch T ls hs k xs = some o → T o ∧ Btw o ls hs
  | 0, xs, o, _, h => by rw [srch] at h; cases h
  | k + 1, xs, o, hb, h => by
    by_cases ht : T xs
    · rw [srch_yes ht] at h; cases h; exact ⟨ht, hb⟩
    · cases e : up xs ls hs with
      | mk ys b =>
        cases b with
        | true => rw [srch_up ht e] at h; exact srch_some (up_next hb e).1 h
        | false => rw [srch_end ht e] at h; cases h
theorem fpV_some {s : Sy} {set pj : List Int} (h : fpV s set = some pj) : prB s = true ∧ setB (prV s).length set = true ∧ projOk s.ar pj = true ∧ ∃ x xs, prjV s set pj = some (x :: xs) := by
  unfold fpV at h
  split at h
  · rename_i hc
    have hs := prB_sys hc.1
    unfold fpGo at h
    split at h
    · cases h
    · rename_i hb
      obtain ⟨⟨x, xs, h1⟩, h2⟩ := srch_some (low_btw hs.1 hb) h
      have hp : projOk s.ar pj = true := projOk_iff.2 (btw_proj hs.1 h2)
      exact ⟨hc.1, hc.2, hp, x, xs, by rw [prjV_yes hc.1 hc.2 hp]; exact h1⟩
  · cases h
/-- An argument that a projection selects, with its place. -/
theorem arg_full {ar pj t l : List Int} (hp : ProjP ar pj) (ht : TermP ar t) (h0 : ∀ x, t[0]? = some x → 0 ≤ x) (h : argO ar pj t = some l) :
    ∃ (f : Nat) (us : List Tm) (i a : Nat), t = (Tm.node f us).flat ∧ (Tm.node (f : Int) us).Ok ar ∧ t[0]? = some (f : Int) ∧ pj[f]? = some (i : Int) ∧ (starts 1 us)[i]? = some (a : Int) ∧ l = (subT ar t a).flat ∧ a < t.length ∧ TermP ar l := by
  obtain ⟨f, us, i, e1, e2, e3, e4, h1, h2⟩ := arg_at hp ht h0
  by_cases hi : i < 0
  · rw [h1 hi] at h; cases h
  · obtain ⟨a, ha, e5, hao, hat⟩ := h2 (by omega)
    rw [e5] at h
    cases h
    obtain ⟨k, rfl⟩ := Int.eq_ofNat_of_zero_le (show 0 ≤ i by omega)
    rw [Int.toNat_natCast] at ha
    have hk := (List.getElem?_eq_some_iff.1 ha).1
    have hd : t.drop (0 + 1 + (flatL (us.take k)).length) = a.flat ++ (flatL (us.drop (k + 1)) ++ []) := drop_arg (p := 0) (rest := []) (by rw [List.drop_zero, List.append_nil]; exact e1) ha
    rw [show 0 + 1 + (flatL (us.take k)).length = 1 + (flatL (us.take k)).length by omega] at hd
    have hlt := drop_lt hd (flat_pos a)
    have := flat_pos a
    exact ⟨f, us, k, 1 + (flatL (us.take k)).length, e1, e2, e3, e4, starts_get hk, by rw [subT_eqS ht hao hd], by omega, hat⟩
theorem has_less {ar l r : List Int} (hl : TermP ar l) (h : has ar l r = true) : r.length < l.length := by
  simp only [has, decide_eq_true_eq] at h
  obtain ⟨p, h1, h2, h3⟩ := h
  obtain ⟨_, h4, _⟩ := sub_term hl h2
  rw [h3] at h4
  omega
theorem prjSt_true {ar pj : List Int} {q : DepP} (h : prjSt ar pj q = some true) : ∃ l r, argO ar pj q.l = some l ∧ argO ar pj q.r = some r ∧ has ar l r = true := by
  unfold prjSt at h
  cases h1 : argO ar pj q.l with
  | none => rw [h1] at h; cases h
  | some l =>
    cases h2 : argO ar pj q.r with
    | none => rw [h1, h2] at h; cases h
    | some r =>
      rw [h1, h2] at h
      simp only at h
      split at h
      · exact ⟨l, r, rfl, rfl, by simpa using h⟩
      · cases h
set_option maxRecDepth 100000 in
set_option maxHeartbeats 16000000 in
theorem walk {v0 : Value} {x0 : Nat} {w : World} (h0 : RawBy w v0 x0) :
    Calls Try.prog 6 #[v0] w fun e w' => e = .returned (.bool true) ∧ Ext w w' := by
  have H0 := Lib.hid h0
  obtain ⟨bb, hbb⟩ : ∃ bb, decide (4096 < x0) = bb := ⟨_, rfl⟩
  have HBB := Lib.hid hbb
  obtain ⟨i0, hii, hiz, his, hib⟩ := info_parts int64_info
  clear h0 hbb
  go_enter Try.func6, Try.ntmps6
  go_wp2_with fail
  (with_reducible refine (c_big HBB.out H0.out).mono ?_)
  rintro e w1 ⟨rfl, hE1⟩
  cases bb with
  | true =>
    go_wp2
    go_ret
    exact ⟨rfl, hE1⟩
  | false =>
    have hx : x0 ≤ 4096 := by have := HBB.out; simpa using this
    have H1 := Lib.hid (H0.out.ext hE1)
    go_wp2_with fail
    (with_reducible refine (c_roll H1.out hx).mono ?_)
    rintro e w2 ⟨g, rfl, hD2, hg2, hE2⟩
    have hE02 : Ext w w2 := Ext.trans hE1 hE2
    have hgw : w.heap.size ≤ g := by have := hE1.size; omega
    have hgl := hD2.lt
    go_wp2_with fail
    (with_reducible refine (c_w9System hD2).mono ?_)
    rintro e w3 ⟨AS, cS, B, m, d, rs, rfl, hS3, hR3, hl3, hG3, hD3, hO3⟩
    have hs3 := hO3.size
    have HY4 := Lib.hid (SysAt.mk' (c := cS) (d := d) (v := .bool true) hS3 hR3 hs3)
    have HSY := Lib.hid (show SysP ⟨arU, rs⟩ from good_sys hl3 hG3)
    have hE03 : Ext w w3 := hO3.ext hE02 hgw
    obtain ⟨w4, hw4⟩ : ∃ w4, w4 = w3.alloc (.cells #[.slice AS 3 cS, .slice B m d] 34) := ⟨_, rfl⟩
    rw [← hw4] at HY4
    have hE34 : Ext w3 w4 := by rw [hw4]; (repeat' (first | (with_reducible exact Ext.refl _) | (with_reducible assumption) | (with_reducible refine Ext.alloc ?_ _) | (with_reducible refine Ext.set ?_ ?_ _) | (with_reducible refine Ext.drewN ?_ _) | (with_reducible refine Ext.drew ?_) | (with_reducible refine Ext.trans ?_ (by with_reducible assumption)) | go_size))
    have HD4 := Lib.hid (hD3.ext hE34)
    have hE04 := Ext.trans hE03 hE34
    have hs34 := hE34.size
    have t0 := HY4.out.c0
    have t1 := HY4.out.c1
    obtain ⟨ps, hps⟩ : ∃ ps, prV ⟨arU, rs⟩ = ps := ⟨_, rfl⟩
    have HPS := Lib.hid hps
    obtain ⟨pb, hpb⟩ : ∃ pb, prB ⟨arU, rs⟩ = pb := ⟨_, rfl⟩
    have HPB := Lib.hid hpb
    clear hS3 hR3 hD3 hO3 hG3 hps hpb
    go_wp2_with fail
    rw [← hw4]
    clear hw4
    obtain ⟨p, hp⟩ : ∃ p, p = w3.heap.size := ⟨_, rfl⟩
    rw [← hp] at HY4 t0 t1 ⊢
    have hpg : p ≠ g := by omega
    clear hp
    (with_reducible refine (c_sPairsOf HPS.out HPB.out HY4.out.rd).mono ?_)
    rintro e w5 ⟨PA, pn, pc, rfl, hOP, hE5⟩
    have hpre := hOP.re
    have hpn : pn ≤ 4194304 := hpre.1.2
    have hs45 := hE5.size
    have HP5 := Lib.hid (hOP.lower (B' := w2.heap.size) (by omega))
    have HY5 := Lib.hid (HY4.out.ext hE5)
    have HD5 := Lib.hid (HD4.out.ext hE5)
    have hE05 := Ext.trans hE04 hE5
    have hg5 : g < w5.heap.size := by omega
    have hlo5 : w2.heap.size ≤ w5.heap.size := by omega
    clear hOP hpre t0 t1 HY4 HD4
    go_wp2_with fail
    obtain ⟨w6, hw6⟩ : ∃ w6, w6 = w5.alloc (.cells #[] 2) := ⟨_, rfl⟩
    have hO6 : Only w5 w6 g := by rw [hw6]; exact Only.of_ext ((Ext.refl w5).alloc _) g
    have HS6 := Lib.hid (show OwI w6 w5.heap.size (some ⟨w5.heap.size, 0, none⟩) 0 0 [] from by rw [hw6]; exact OwI.none0 (Nat.le_refl _))
    have HD6 := Lib.hid (show Dice w6 g by rw [hw6]; exact HD5.out.ext ((Ext.refl w5).alloc _))
    rw [← hw6]
    clear hw6
    go_loopw [7, 8] (fun sv iv wr => ∃ i : Nat, iv = .int .i64 i ∧ i ≤ pn ∧ (∃ A n c, sv = .slice A n c ∧ n ≤ i ∧ Hid (∃ xs, OwI wr w5.heap.size A n c xs)) ∧ Hid (Dice wr g) ∧ Hid (Only w5 wr g)) (fun _ iv _ => pn - (intOf iv).toNat)
    case atStart => exact ⟨0, rfl, Nat.zero_le _, ⟨_, 0, 0, rfl, Nat.le_refl _, Lib.hid ⟨_, HS6.out⟩⟩, HD6, Lib.hid hO6⟩
    case round =>
      obtain ⟨i, rfl, hi, ⟨A7, n7, c7, rfl, hn7, hS7⟩, hD7, hO7⟩ := hrel
      by_cases hlt : i < pn
      · have hipn : (i : Int) < (pn : Int) := by omega
        go_wp2_with fail
        (with_reducible refine (c_below (n := 3) hD7.out (by omega) (by omega)).mono ?_)
        rintro e w8 ⟨x, rfl, hx3, hD8, hO8⟩
        have HO58 := Lib.hid (show Only w5 w8 g from hO7.out.trans hO8)
        have HS8 := Lib.hid (show ∃ xs, OwI w8 w5.heap.size A7 n7 c7 xs from by obtain ⟨xs, h⟩ := hS7.out; exact ⟨xs, h.only hO8 hg5⟩)
        have HD8 := Lib.hid hD8
        clear hD8 hO8 hS7
        by_cases hx0 : x > 0
        · have hxd : decide (x > 0) = true := by simpa using hx0
          obtain ⟨xs, hxs⟩ := HS8.out
          have HXS := Lib.hid hxs
          have hsz58 := HO58.out.size
          clear hxs
          go_wp2_with (at_builtin; go_loud (refine wpList_append_lies _ rfl (.tmp 42) (.tmp 44) 22 rfl w5.heap.size 2 i0 (.int .i64 0) 1 8 Try.underlying22 hii hiz his hib rfl (by decide) _ _ _ rfl (OwI.alloc HXS.out _).2 ⟨w8.heap.size, 0, none⟩ 1 1 [.int .i64 (i : Int)] rfl rfl (one_cells _ _ _) (one_one _) (by decide) (by unfold maxLen; omega) (by omega) (by go_size) _ rfl ?_))
          intro g9 cap wx hown hg9 hat hltg
          have HOx := Lib.hid (show Only w5 wx g from (HO58.out.trans (Only.of_ext ((Ext.refl w8).alloc _) g)).grown hg9 (fun b e => (HXS.out.ob2 b e).1))
          have HDx := Lib.hid (show Dice wx g from (HD8.out.ext ((Ext.refl w8).alloc _)).grown hg9 (fun b e => by have := (HXS.out.ob2 b e).1; omega))
          have HW := Lib.hid (show OwI wx w5.heap.size (some ⟨g9, 0, none⟩) (n7 + 1) cap (xs ++ [(i : Int)]) from ⟨by omega, by rw [List.map_append]; exact hown⟩)
          clear hown hg9 hat
          go_wp2_with fail
          go_roundw
          case rel => exact ⟨i + 1, by go_num, by omega, ⟨_, _, _, rfl, by omega, Lib.hid ⟨_, HW.out⟩⟩, HDx, HOx⟩
          case measure => simp only [intOf]; omega
        · have hxd : decide (x > 0) = false := by simpa using hx0
          go_wp2_with fail
          go_roundw
          case rel => exact ⟨i + 1, by go_num, by omega, ⟨_, _, _, rfl, by omega, HS8⟩, HD8, HO58⟩
          case measure => simp only [intOf]; omega
      · obtain ⟨set, hset⟩ := hS7.out
        have HSET := Lib.hid hset.ri
        have HYr := Lib.hid (HY5.out.only hO7.out hgl)
        have HPr := Lib.hid (OwE.onlyD HP5.out hO7.out hgl)
        have hE0r : Ext w wr := hO7.out.ext hE05 hgw
        obtain ⟨o, ho⟩ : ∃ o, fpV ⟨arU, rs⟩ set = o := ⟨_, rfl⟩
        have HO := Lib.hid ho
        have t0 := HYr.out.c0
        have t1 := HYr.out.c1
        clear hset ho hS7 hD7 HS6 HD6 HY5 HP5 HD5
        go_wp2_with fail
        (with_reducible refine (c_iFirstProj HO.out HYr.out.rd (RdI.mk HSET.out)).mono ?_)
        rintro e w8 ⟨JA, jn, jc, rfl, hJO, hE8⟩
        have HJ8 := Lib.hid hJO.ri
        have hjlen := hJO.len
        have HY8 := Lib.hid (HYr.out.ext hE8)
        have HP8 := Lib.hid (HPr.out.ext hE8)
        have HSET8 := Lib.hid (RI.ext HSET.out hE8)
        have hE08 := Ext.trans hE0r hE8
        clear t0 t1 hJO HYr HPr HSET
        have t0 := HY8.out.c0
        have t1 := HY8.out.c1
        cases o with
        | none =>
          have hjn0 : jn = 0 := by simpa using hjlen.symm
          subst hjn0
          simp only [Option.isSome_none]
          go_wp2_with fail
          (with_reducible refine (c_sFirstProj HO.out HY8.out.rd (RdI.mk HSET8.out)).mono ?_)
          rintro e w9 ⟨KA, kn, kc, rfl, hKO, hE9⟩
          simp only [Option.isSome_none]
          go_wp2_with fail
          go_ret
          exact ⟨rfl, Ext.trans hE08 hE9⟩
        | some pj =>
          obtain ⟨hpB, hsB, hpO, z0, zs, hpv⟩ := fpV_some HO.out
          have HPV := Lib.hid hpv
          have HPO := Lib.hid hpO
          have HPP := Lib.hid (show ProjP arU pj from projOk_iff.1 hpO)
          have HPK := Lib.hid (show ∀ q ∈ ps, PairP arU q from by rw [← HPS.out]; exact prV_ok hpB)
          have HST := Lib.hid (show SetP ps.length set from by rw [← HPS.out]; exact setB_iff.1 hsB)
          have HGM := Lib.hid (show ∀ z ∈ z0 :: zs, ∃ (n : Nat) (q : DepP), z = (n : Int) ∧ ps[n]? = some q ∧ prjSt arU pj q = some true from by
            have h := hpv
            rw [prjV_yes hpB hsB hpO, HPS.out] at h
            intro z hz
            rcases prjGo_mem h z hz with h1 | ⟨h1, q, h2, h3⟩
            · cases h1
            · obtain ⟨j, hj, e⟩ := List.mem_iff_getElem.1 h1
              have := (HST.out j z (by rw [List.getElem?_eq_getElem hj, e])).1
              exact ⟨z.toNat, q, by omega, h2, h3⟩)
          simp only [Option.isSome_some, Option.getD_some] at hjlen HJ8 ⊢
          clear hpB hsB hpO hpv HST
          go_wp2_with fail
          (with_reducible refine (c_sProjectedBy HPV.out HY8.out.rd (RdI.mk HSET8.out) (RdI.mk HJ8.out)).mono ?_)
          rintro e w9 ⟨GA, gn, gc, rfl, hGR, hE9⟩
          have hglen := hGR.len
          have hGle := hGR.le
          simp only [Option.isSome_some, Option.getD_some] at hGR hglen ⊢
          have HG9 := Lib.hid hGR
          have HY9 := Lib.hid (HY8.out.ext hE9)
          have t2 := HY9.out.c0
          have t3 := HY9.out.c1
          clear hGR t0 t1
          go_wp2_with fail
          (with_reducible refine (c_iProjectedBy HPV.out HY9.out.rd (RdI.mk (RI.ext HSET8.out hE9)) (RdI.mk (RI.ext HJ8.out hE9))).mono ?_)
          rintro e w10 ⟨KA, kn, kc, rfl, hKO, hE10⟩
          simp only [Option.isSome_some, Option.getD_some] at hKO ⊢
          have HK10 := Lib.hid hKO.ri
          have HG10 := Lib.hid (RI.ext HG9.out hE10)
          have HY10 := Lib.hid (HY9.out.ext hE10)
          have HLI := Lib.hid (show ((z0 :: zs) == (z0 :: zs)) = true by simp)
          have hE810 := Ext.trans hE9 hE10
          have hgn0 : 0 < gn := by rw [← hglen]; simp
          have hgnz : ((gn : Int) == 0) = false := by simp; omega
          have t4 := HY10.out.c0
          have t5 := HY10.out.c1
          clear hKO t2 t3 HY9
          go_wp2_with fail
          (with_reducible refine (c_likeInts HLI.out (RdI.mk HG10.out) (RdI.mk HK10.out)).mono ?_)
          rintro e w11 ⟨rfl, hE11⟩
          have HY11 := Lib.hid (HY10.out.ext hE11)
          have t6 := HY11.out.c0
          clear t4 t5
          go_wp2_with fail
          (with_reducible refine (c_iProjOk' HPO.out HY11.out.sig (RdI.mk (RI.ext HJ8.out (Ext.trans hE810 hE11)))).mono ?_)
          rintro e w12 ⟨rfl, hE12⟩
          have hE812 := Ext.trans hE810 (Ext.trans hE11 hE12)
          have HG12 := Lib.hid (RI.ext HG10.out (Ext.trans hE11 hE12))
          have HJ12 := Lib.hid (RI.ext HJ8.out hE812)
          have HY12 := Lib.hid (HY8.out.ext hE812)
          have HP12 := Lib.hid (HP8.out.ext hE812)
          have hE012 := Ext.trans hE08 hE812
          clear t6 HG10 HJ8 HY8 HP8 HY10 HY11 HG9 HK10 hglen
          go_wp2_with fail
          obtain ⟨wq, rfl⟩ : ∃ wq : World, wq = wr := ⟨_, rfl⟩
          go_loopw [17] (fun iv wr => ∃ i : Nat, iv = .int .i64 i ∧ i ≤ gn ∧ Ext w12 wr) (fun iv _ => gn - (intOf iv).toNat)
          case atStart => exact ⟨0, rfl, Nat.zero_le _, Ext.refl _⟩
          case round =>
            obtain ⟨i, rfl, hi, hEr⟩ := hrel
            by_cases hlt : i < gn
            · obtain ⟨gb, go, z, rfl, hz, hzc⟩ := RI.at_ (RI.ext HG12.out hEr) hlt
              obtain ⟨k, q, rfl, hqk, hst⟩ := HGM.out z (List.mem_of_getElem? hz)
              have hkp : k < pn := by
                have h1 := (List.getElem?_eq_some_iff.1 hqk).1
                have h2 := HP12.out.re.1.1
                omega
              obtain ⟨q', pbb, po, LA, ln, lc, RA, rn, rc, hqk', rfl, hc0, hc1, hc2, hc3, hlcap, hrcap, hlr, hrr⟩ := RE.at_ ((HP12.out.re).ext hEr) hkp
              have hqq : q' = q := by rw [hqk] at hqk'; exact (Option.some.inj hqk').symm
              subst hqq
              obtain ⟨⟨hPl, hl0⟩, hPr, hr0⟩ := HPK.out q' (List.mem_of_getElem? hqk)
              obtain ⟨lu, ru, hal, har, hhas⟩ := prjSt_true hst
              obtain ⟨lf, lus, li, la, hle, hlk, hlh, hlj, hls, hlu, hla, hlt2⟩ := arg_full HPP.out hPl hl0 hal
              obtain ⟨rf, rus, ri, ra, hre, hrk, hrh, hrj, hrs, hru, hra, hrt2⟩ := arg_full HPP.out hPr hr0 har
              have hless := has_less hlt2 hhas
              obtain ⟨lb, lo, rfl, hlc⟩ := args_cell hlr hlh
              obtain ⟨rb, ro, rfl, hrc⟩ := args_cell hrr hrh
              obtain ⟨jb, jo, rfl, hjlc⟩ := args_cell (RI.ext HJ12.out hEr) hlj
              obtain ⟨jb2, jo2, hjeq, hjrc⟩ := args_cell (RI.ext HJ12.out hEr) hrj
              cases hjeq
              have hlfn : lf < jn := by have h1 := (List.getElem?_eq_some_iff.1 hlj).1; have h2 := HJ12.out.len; omega
              have hrfn : rf < jn := by have h1 := (List.getElem?_eq_some_iff.1 hrj).1; have h2 := HJ12.out.len; omega
              have hlnp : 0 < ln := by have := hlr.len; have := hPl.2.1.1; omega
              have hrnp : 0 < rn := by have := hrr.len; have := hPr.2.1.1; omega
              have hlin : li < lus.length := by have h1 := (List.getElem?_eq_some_iff.1 hls).1; rwa [starts_len] at h1
              have hrin : ri < rus.length := by have h1 := (List.getElem?_eq_some_iff.1 hrs).1; rwa [starts_len] at h1
              have HlI := Lib.hid hlr
              have HlP := Lib.hid hPl
              have HlK := Lib.hid hlk
              have HlE := Lib.hid hle
              have HlS := Lib.hid hls
              have HlU := Lib.hid hlu
              have HlC := Lib.hid hlcap
              have HlL := Lib.hid hla
              have HrI := Lib.hid hrr
              have HrP := Lib.hid hPr
              have HrK := Lib.hid hrk
              have HrE := Lib.hid hre
              have HrS := Lib.hid hrs
              have HrU := Lib.hid hru
              have HrC := Lib.hid hrcap
              have HrL := Lib.hid hra
              have HLESS := Lib.hid hless
              have hig : (i : Int) < (gn : Int) := by omega
              have hi0 : (0 : Int) ≤ (i : Int) := by omega
              have hk0 : (0 : Int) ≤ (k : Int) := by omega
              have hkpi : (k : Int) < (pn : Int) := by omega
              obtain ⟨wx, hwx⟩ : ∃ wx, wx = wr.alloc (.cells #[.slice (some ⟨lb, lo, none⟩) ln lc, .slice (some ⟨rb, ro, none⟩) rn rc, .int .i64 q'.rule, .int .i64 q'.at_] 46) := ⟨_, rfl⟩
              have hErx : Ext wr wx := by rw [hwx]; (repeat' (first | (with_reducible exact Ext.refl _) | (with_reducible assumption) | (with_reducible refine Ext.alloc ?_ _) | (with_reducible refine Ext.set ?_ ?_ _) | (with_reducible refine Ext.drewN ?_ _) | (with_reducible refine Ext.drew ?_) | (with_reducible refine Ext.trans ?_ (by with_reducible assumption)) | go_size))
              have hq0 : wx.cell? ⟨wr.heap.size, 0, none⟩ = some (.slice (some ⟨lb, lo, none⟩) ln lc) := by rw [hwx]; simp [go_sem]
              have hq1 : wx.cell? ⟨wr.heap.size, 1, none⟩ = some (.slice (some ⟨rb, ro, none⟩) rn rc) := by rw [hwx]; simp [go_sem]
              have hE12x := Ext.trans hEr hErx
              have HYl := Lib.hid (HY12.out.ext hE12x)
              have hpl := HYl.out.c0
              have hhl : wx.cell? ⟨lb, lo, none⟩ = some (.int .i64 (lf : Int)) := Ext.keep hErx hlc
              have hhr0 : wx.cell? ⟨rb, ro, none⟩ = some (.int .i64 (rf : Int)) := Ext.keep hErx hrc
              have hjl := Ext.keep hErx hjlc
              have hjr0 := Ext.keep hErx hjrc
              have HlI := Lib.hid (RI.ext HlI.out hErx)
              have HrI := Lib.hid (RI.ext HrI.out hErx)
              have hE0x := Ext.trans hE012 hE12x
              clear hqk hst hz hqk' hPl hl0 hPr hr0 hal har hhas hle hlk hlh hlj hls hlu hla hlt2 hre hrk hrh hrj hrs hru hra hrt2 hless hlr hrr hlcap hrcap
              go_wp2_with fail
              rw [← hwx]
              clear hwx hc0 hc1 hc2 hc3 hzc hlc hrc hjlc hjrc
              obtain ⟨qb, hqb⟩ : ∃ qb, qb = wr.heap.size := ⟨_, rfl⟩
              rw [← hqb] at hq0 hq1 ⊢
              clear hqb
              have hql := hq0
              refine wp_only (R := fun (a0 : Act) (a8 : Act) (w9 : World) => ∃ (abl : Nat) (aol : Nat) (n8l : Nat) (c8l : Nat) (A9l : Option Addr) (n9l : Nat) (c9l : Nat), a8 = ((((((((((((((((((((a0.put (some 118) (.pointer (some ⟨p, 0, none⟩))).put (some 119) (.agg #[.slice AS 3 cS])).put (some 120) (.pointer (some ⟨qb, 0, none⟩))).put (some 121) (.slice (some ⟨lb, lo, none⟩) ln lc)).put (some 122) (.pointer (some ⟨p, 0, none⟩))).put (some 123) (.agg #[.slice AS 3 cS])).put (some 124) (.pointer (some ⟨qb, 0, none⟩))).put (some 125) (.slice (some ⟨lb, lo, none⟩) ln lc)).put (some 126) (.slice (some ⟨abl, aol, none⟩) n8l c8l)).put (some 127) (.slice (some ⟨jb, jo, none⟩) jn jc)).put (some 128) (.pointer (some ⟨qb, 0, none⟩))).put (some 129) (.slice (some ⟨lb, lo, none⟩) ln lc)).put (some 130) (.pointer (some ⟨lb, lo, none⟩))).put (some 131) (.int .i64 (lf : Int))).put (some 132) (.pointer (some ⟨jb, jo + lf, none⟩))).put (some 133) (.int .i64 (li : Int))).put (some 134) (.pointer (some ⟨abl, aol + li, none⟩))).put (some 135) (.int .i64 (la : Int))).put (some 136) (.slice A9l n9l c9l)).put (some 19) (.slice A9l n9l c9l)) ∧ n9l = lu.length ∧ Ext wx w9) ?_ (fun a8 w7 hR => ?_)
              · refine wp_region_held_drew (S := (fun w' => Ext wx w')) (by kernel_rfl) ((Ext.refl wx).drew) (fun hH => ?_)
                refine wpAnyH_take_dst (i := 0) (v := .pointer (some ⟨p, 0, none⟩)) (d := some 118) rfl rfl (by kernel_rfl) (by kernel_rfl) (by kernel_rfl) (fun _ _ _ h => h) (Or.inl ⟨by rfl, ?_⟩) hH ?_
                · (intro w' hE'; (try dsimp only at hE'); have y0 := Ext.keep hE' hpl; have y1 := Ext.keep hE' hql; have y2 := Ext.keep hE' hhl; have y3 := Ext.keep hE' hjl; go_simp; try with_reducible rfl)
                try simp only [Act.put, List.setIfInBounds_toArray, List.set_cons_zero, List.set_cons_succ]
                refine wpAnyH_take_dst (i := 1) (v := .agg #[.slice AS 3 cS]) (d := some 119) rfl rfl (by kernel_rfl) (by kernel_rfl) (by kernel_rfl) (fun _ _ _ h => h) (Or.inl ⟨by rfl, ?_⟩) hH ?_
                · (intro w' hE'; (try dsimp only at hE'); have y0 := Ext.keep hE' hpl; have y1 := Ext.keep hE' hql; have y2 := Ext.keep hE' hhl; have y3 := Ext.keep hE' hjl; go_simp; try with_reducible rfl)
                try simp only [Act.put, List.setIfInBounds_toArray, List.set_cons_zero, List.set_cons_succ]
                refine wpAnyH_take_dst (i := 2) (v := .pointer (some ⟨qb, 0, none⟩)) (d := some 120) rfl rfl (by kernel_rfl) (by kernel_rfl) (by kernel_rfl) (fun _ _ _ h => h) (Or.inl ⟨by rfl, ?_⟩) hH ?_
                · (intro w' hE'; (try dsimp only at hE'); have y0 := Ext.keep hE' hpl; have y1 := Ext.keep hE' hql; have y2 := Ext.keep hE' hhl; have y3 := Ext.keep hE' hjl; go_simp; try with_reducible rfl)
                try simp only [Act.put, List.setIfInBounds_toArray, List.set_cons_zero, List.set_cons_succ]
                refine wpAnyH_take_dst (i := 3) (v := .slice (some ⟨lb, lo, none⟩) ln lc) (d := some 121) rfl rfl (by kernel_rfl) (by kernel_rfl) (by kernel_rfl) (fun _ _ _ h => h) (Or.inl ⟨by rfl, ?_⟩) hH ?_
                · (intro w' hE'; (try dsimp only at hE'); have y0 := Ext.keep hE' hpl; have y1 := Ext.keep hE' hql; have y2 := Ext.keep hE' hhl; have y3 := Ext.keep hE' hjl; go_simp; try with_reducible rfl)
                try simp only [Act.put, List.setIfInBounds_toArray, List.set_cons_zero, List.set_cons_succ]
                refine wpAnyH_take_dst (i := 4) (v := .pointer (some ⟨p, 0, none⟩)) (d := some 122) rfl rfl (by kernel_rfl) (by kernel_rfl) (by kernel_rfl) (fun _ _ _ h => h) (Or.inl ⟨by rfl, ?_⟩) hH ?_
                · (intro w' hE'; (try dsimp only at hE'); have y0 := Ext.keep hE' hpl; have y1 := Ext.keep hE' hql; have y2 := Ext.keep hE' hhl; have y3 := Ext.keep hE' hjl; go_simp; try with_reducible rfl)
                try simp only [Act.put, List.setIfInBounds_toArray, List.set_cons_zero, List.set_cons_succ]
                refine wpAnyH_take_dst (i := 5) (v := .agg #[.slice AS 3 cS]) (d := some 123) rfl rfl (by kernel_rfl) (by kernel_rfl) (by kernel_rfl) (fun _ _ _ h => h) (Or.inl ⟨by rfl, ?_⟩) hH ?_
                · (intro w' hE'; (try dsimp only at hE'); have y0 := Ext.keep hE' hpl; have y1 := Ext.keep hE' hql; have y2 := Ext.keep hE' hhl; have y3 := Ext.keep hE' hjl; go_simp; try with_reducible rfl)
                try simp only [Act.put, List.setIfInBounds_toArray, List.set_cons_zero, List.set_cons_succ]
                refine wpAnyH_take_dst (i := 6) (v := .pointer (some ⟨qb, 0, none⟩)) (d := some 124) rfl rfl (by kernel_rfl) (by kernel_rfl) (by kernel_rfl) (fun _ _ _ h => h) (Or.inl ⟨by rfl, ?_⟩) hH ?_
                · (intro w' hE'; (try dsimp only at hE'); have y0 := Ext.keep hE' hpl; have y1 := Ext.keep hE' hql; have y2 := Ext.keep hE' hhl; have y3 := Ext.keep hE' hjl; go_simp; try with_reducible rfl)
                try simp only [Act.put, List.setIfInBounds_toArray, List.set_cons_zero, List.set_cons_succ]
                refine wpAnyH_take_dst (i := 7) (v := .slice (some ⟨lb, lo, none⟩) ln lc) (d := some 125) rfl rfl (by kernel_rfl) (by kernel_rfl) (by kernel_rfl) (fun _ _ _ h => h) (Or.inl ⟨by rfl, ?_⟩) hH ?_
                · (intro w' hE'; (try dsimp only at hE'); have y0 := Ext.keep hE' hpl; have y1 := Ext.keep hE' hql; have y2 := Ext.keep hE' hhl; have y3 := Ext.keep hE' hjl; go_simp; try with_reducible rfl)
                try simp only [Act.put, List.setIfInBounds_toArray, List.set_cons_zero, List.set_cons_succ]
                refine wpAnyH_take_dst (i := 9) (v := .slice (some ⟨jb, jo, none⟩) jn jc) (d := some 127) rfl rfl (by kernel_rfl) (by kernel_rfl) (by kernel_rfl) (fun _ _ _ h => h) (Or.inl ⟨by rfl, ?_⟩) hH ?_
                · (intro w' hE'; (try dsimp only at hE'); have y0 := Ext.keep hE' hpl; have y1 := Ext.keep hE' hql; have y2 := Ext.keep hE' hhl; have y3 := Ext.keep hE' hjl; go_simp; try with_reducible rfl)
                try simp only [Act.put, List.setIfInBounds_toArray, List.set_cons_zero, List.set_cons_succ]
                refine wpAnyH_take_dst (i := 10) (v := .pointer (some ⟨qb, 0, none⟩)) (d := some 128) rfl rfl (by kernel_rfl) (by kernel_rfl) (by kernel_rfl) (fun _ _ _ h => h) (Or.inl ⟨by rfl, ?_⟩) hH ?_
                · (intro w' hE'; (try dsimp only at hE'); have y0 := Ext.keep hE' hpl; have y1 := Ext.keep hE' hql; have y2 := Ext.keep hE' hhl; have y3 := Ext.keep hE' hjl; go_simp; try with_reducible rfl)
                try simp only [Act.put, List.setIfInBounds_toArray, List.set_cons_zero, List.set_cons_succ]
                refine wpAnyH_take_dst (i := 11) (v := .slice (some ⟨lb, lo, none⟩) ln lc) (d := some 129) rfl rfl (by kernel_rfl) (by kernel_rfl) (by kernel_rfl) (fun _ _ _ h => h) (Or.inl ⟨by rfl, ?_⟩) hH ?_
                · (intro w' hE'; (try dsimp only at hE'); have y0 := Ext.keep hE' hpl; have y1 := Ext.keep hE' hql; have y2 := Ext.keep hE' hhl; have y3 := Ext.keep hE' hjl; go_simp; try with_reducible rfl)
                try simp only [Act.put, List.setIfInBounds_toArray, List.set_cons_zero, List.set_cons_succ]
                refine wpAnyH_take_dst (i := 12) (v := .pointer (some ⟨lb, lo, none⟩)) (d := some 130) rfl rfl (by kernel_rfl) (by kernel_rfl) (by kernel_rfl) (fun _ _ _ h => h) (Or.inl ⟨by rfl, ?_⟩) hH ?_
                · (intro w' hE'; (try dsimp only at hE'); have y0 := Ext.keep hE' hpl; have y1 := Ext.keep hE' hql; have y2 := Ext.keep hE' hhl; have y3 := Ext.keep hE' hjl; go_simp; try with_reducible rfl)
                try simp only [Act.put, List.setIfInBounds_toArray, List.set_cons_zero, List.set_cons_succ]
                refine wpAnyH_take_dst (i := 13) (v := .int .i64 (lf : Int)) (d := some 131) rfl rfl (by kernel_rfl) (by kernel_rfl) (by kernel_rfl) (fun _ _ _ h => h) (Or.inl ⟨by rfl, ?_⟩) hH ?_
                · (intro w' hE'; (try dsimp only at hE'); have y0 := Ext.keep hE' hpl; have y1 := Ext.keep hE' hql; have y2 := Ext.keep hE' hhl; have y3 := Ext.keep hE' hjl; go_simp; try with_reducible rfl)
                try simp only [Act.put, List.setIfInBounds_toArray, List.set_cons_zero, List.set_cons_succ]
                refine wpAnyH_take_dst (i := 14) (v := .pointer (some ⟨jb, jo + lf, none⟩)) (d := some 132) rfl rfl (by kernel_rfl) (by kernel_rfl) (by kernel_rfl) (fun _ _ _ h => h) (Or.inl ⟨by rfl, ?_⟩) hH ?_
                · (intro w' hE'; (try dsimp only at hE'); have y0 := Ext.keep hE' hpl; have y1 := Ext.keep hE' hql; have y2 := Ext.keep hE' hhl; have y3 := Ext.keep hE' hjl; go_simp; try with_reducible rfl)
                try simp only [Act.put, List.setIfInBounds_toArray, List.set_cons_zero, List.set_cons_succ]
                refine wpAnyH_take_dst (i := 15) (v := .int .i64 (li : Int)) (d := some 133) rfl rfl (by kernel_rfl) (by kernel_rfl) (by kernel_rfl) (fun _ _ _ h => h) (Or.inl ⟨by rfl, ?_⟩) hH ?_
                · (intro w' hE'; (try dsimp only at hE'); have y0 := Ext.keep hE' hpl; have y1 := Ext.keep hE' hql; have y2 := Ext.keep hE' hhl; have y3 := Ext.keep hE' hjl; go_simp; try with_reducible rfl)
                try simp only [Act.put, List.setIfInBounds_toArray, List.set_cons_zero, List.set_cons_succ]
                refine wpAnyH_ready (rs := [8]) (by kernel_rfl) (by simp) ?_
                refine AllReadyH.cons rfl (fun K hK => ?_) AllReadyH.nil
                rw [if_pos (by rfl)]
                go_wp2_with fail; (with_reducible refine (c_ArgsAtA rfl (HYl.out.ext hH).sig (RdI.mk (RI.ext HlI.out hH)) HlP.out HlK.out HlE.out).mono ?_); rintro e w8 ⟨A8, n8l, c8l, rfl, hO8, hE8⟩; have hX8 := Ext.trans hH hE8; obtain ⟨abl, aol, hA8, hc8⟩ := args_cell hO8.ri HlS.out; subst hA8; have hn8 := hO8.len; rw [starts_len] at hn8; have hb8 : (li : Int) < (n8l : Int) := (by omega); have hb9 : ¬ n8l ≤ li := (by omega)
                refine hK.out _ _ (hX8) (fun hH9 => ?_)
                clear hK; have hH0 := hH; clear hH; have hH := hH9; clear hH9
                try simp only [Act.put, List.setIfInBounds_toArray, List.set_cons_zero, List.set_cons_succ]
                refine wpAnyH_take_dst (i := 16) (v := .pointer (some ⟨abl, aol + li, none⟩)) (d := some 134) rfl rfl (by kernel_rfl) (by kernel_rfl) (by kernel_rfl) (fun _ _ _ h => h) (Or.inl ⟨by rfl, ?_⟩) hH ?_
                · (intro w' hE'; (try dsimp only at hE'); have y0 := Ext.keep hE' hpl; have y1 := Ext.keep hE' hql; have y2 := Ext.keep hE' hhl; have y3 := Ext.keep hE' hjl; go_simp; try with_reducible rfl)
                try simp only [Act.put, List.setIfInBounds_toArray, List.set_cons_zero, List.set_cons_succ]
                refine wpAnyH_ready (rs := [17]) (by kernel_rfl) (by simp) ?_
                refine AllReadyH.cons rfl (fun K hK => ?_) AllReadyH.nil
                rw [if_pos (by rfl)]
                go_wp2_with fail
                refine hK.out _ _ ((by first | exact hH | exact hX8 | exact hX8.drew)) (fun hH9 => ?_)
                clear hK; have hH0 := hH; clear hH; have hH := hH9; clear hH9
                try simp only [Act.put, List.setIfInBounds_toArray, List.set_cons_zero, List.set_cons_succ]
                refine wpAnyH_ready (rs := [18]) (by kernel_rfl) (by simp) ?_
                refine AllReadyH.cons rfl (fun K hK => ?_) AllReadyH.nil
                rw [if_pos (by rfl)]
                go_wp2_with fail; (with_reducible refine (c_SubAtA HlU.out (HYl.out.ext hH).sig (RI.ext HlI.out hH) HlC.out HlP.out HlL.out).mono ?_); rintro e w9 ⟨A9l, n9l, c9l, rfl, hO9, hE9⟩; have hX9 := Ext.trans hH hE9; have hn9 := hO9.len
                refine hK.out _ _ (hX9) (fun hH9 => ?_)
                clear hK; have hH0 := hH; clear hH; have hH := hH9; clear hH9
                try simp only [Act.put, List.setIfInBounds_toArray, List.set_cons_zero, List.set_cons_succ]
                refine wpAnyH_take_dst (i := 19) (v := .slice A9l n9l c9l) (d := some 19) rfl rfl (by kernel_rfl) (by kernel_rfl) (by kernel_rfl) (fun _ _ _ h => h) (Or.inl ⟨by rfl, ?_⟩) hH ?_
                · (intro w' hE'; (try dsimp only at hE'); have y0 := Ext.keep hE' hpl; have y1 := Ext.keep hE' hql; have y2 := Ext.keep hE' hhl; have y3 := Ext.keep hE' hjl; go_simp; try with_reducible rfl)
                try simp only [Act.put, List.setIfInBounds_toArray, List.set_cons_zero, List.set_cons_succ]
                refine wpAnyH_done (by kernel_rfl) ?_ _
                exact ⟨abl, aol, n8l, c8l, A9l, n9l, c9l, by rfl, hn9.symm, hH⟩
              obtain ⟨abl, aol, n8l, c8l, A9l, n9l, c9l, ha, ⟨hn24, hE24⟩⟩ := hR
              simp only [Act.put, List.setIfInBounds_toArray, List.set_cons_zero, List.set_cons_succ] at ha
              subst ha
              have HN24 := Lib.hid hn24
              clear hn24
              have hpr := Ext.keep hE24 hpl
              have hqr := Ext.keep hE24 hq1
              have hhr := Ext.keep hE24 hhr0
              have hjr := Ext.keep hE24 hjr0
              have HYr := Lib.hid (HYl.out.ext hE24)
              have HrI := Lib.hid (RI.ext HrI.out hE24)
              clear hpl hql hq0 hq1 hhl hjl hhr0 hjr0
              go_wp2_with fail
              refine wp_only (R := fun (a0 : Act) (a8 : Act) (w9 : World) => ∃ (abr : Nat) (aor : Nat) (n8r : Nat) (c8r : Nat) (A9r : Option Addr) (n9r : Nat) (c9r : Nat), a8 = ((((((((((((((((((((a0.put (some 137) (.pointer (some ⟨p, 0, none⟩))).put (some 138) (.agg #[.slice AS 3 cS])).put (some 139) (.pointer (some ⟨qb, 1, none⟩))).put (some 140) (.slice (some ⟨rb, ro, none⟩) rn rc)).put (some 141) (.pointer (some ⟨p, 0, none⟩))).put (some 142) (.agg #[.slice AS 3 cS])).put (some 143) (.pointer (some ⟨qb, 1, none⟩))).put (some 144) (.slice (some ⟨rb, ro, none⟩) rn rc)).put (some 145) (.slice (some ⟨abr, aor, none⟩) n8r c8r)).put (some 146) (.slice (some ⟨jb, jo, none⟩) jn jc)).put (some 147) (.pointer (some ⟨qb, 1, none⟩))).put (some 148) (.slice (some ⟨rb, ro, none⟩) rn rc)).put (some 149) (.pointer (some ⟨rb, ro, none⟩))).put (some 150) (.int .i64 (rf : Int))).put (some 151) (.pointer (some ⟨jb, jo + rf, none⟩))).put (some 152) (.int .i64 (ri : Int))).put (some 153) (.pointer (some ⟨abr, aor + ri, none⟩))).put (some 154) (.int .i64 (ra : Int))).put (some 155) (.slice A9r n9r c9r)).put (some 20) (.slice A9r n9r c9r)) ∧ n9r = ru.length ∧ Ext w7 w9) ?_ (fun a8 w13 hR => ?_)
              · refine wp_region_held_drew (S := (fun w' => Ext w7 w')) (by kernel_rfl) ((Ext.refl w7).drew) (fun hH => ?_)
                refine wpAnyH_take_dst (i := 0) (v := .pointer (some ⟨p, 0, none⟩)) (d := some 137) rfl rfl (by kernel_rfl) (by kernel_rfl) (by kernel_rfl) (fun _ _ _ h => h) (Or.inl ⟨by rfl, ?_⟩) hH ?_
                · (intro w' hE'; (try dsimp only at hE'); have y0 := Ext.keep hE' hpr; have y1 := Ext.keep hE' hqr; have y2 := Ext.keep hE' hhr; have y3 := Ext.keep hE' hjr; go_simp; try with_reducible rfl)
                try simp only [Act.put, List.setIfInBounds_toArray, List.set_cons_zero, List.set_cons_succ]
                refine wpAnyH_take_dst (i := 1) (v := .agg #[.slice AS 3 cS]) (d := some 138) rfl rfl (by kernel_rfl) (by kernel_rfl) (by kernel_rfl) (fun _ _ _ h => h) (Or.inl ⟨by rfl, ?_⟩) hH ?_
                · (intro w' hE'; (try dsimp only at hE'); have y0 := Ext.keep hE' hpr; have y1 := Ext.keep hE' hqr; have y2 := Ext.keep hE' hhr; have y3 := Ext.keep hE' hjr; go_simp; try with_reducible rfl)
                try simp only [Act.put, List.setIfInBounds_toArray, List.set_cons_zero, List.set_cons_succ]
                refine wpAnyH_take_dst (i := 2) (v := .pointer (some ⟨qb, 1, none⟩)) (d := some 139) rfl rfl (by kernel_rfl) (by kernel_rfl) (by kernel_rfl) (fun _ _ _ h => h) (Or.inl ⟨by rfl, ?_⟩) hH ?_
                · (intro w' hE'; (try dsimp only at hE'); have y0 := Ext.keep hE' hpr; have y1 := Ext.keep hE' hqr; have y2 := Ext.keep hE' hhr; have y3 := Ext.keep hE' hjr; go_simp; try with_reducible rfl)
                try simp only [Act.put, List.setIfInBounds_toArray, List.set_cons_zero, List.set_cons_succ]
                refine wpAnyH_take_dst (i := 3) (v := .slice (some ⟨rb, ro, none⟩) rn rc) (d := some 140) rfl rfl (by kernel_rfl) (by kernel_rfl) (by kernel_rfl) (fun _ _ _ h => h) (Or.inl ⟨by rfl, ?_⟩) hH ?_
                · (intro w' hE'; (try dsimp only at hE'); have y0 := Ext.keep hE' hpr; have y1 := Ext.keep hE' hqr; have y2 := Ext.keep hE' hhr; have y3 := Ext.keep hE' hjr; go_simp; try with_reducible rfl)
                try simp only [Act.put, List.setIfInBounds_toArray, List.set_cons_zero, List.set_cons_succ]
                refine wpAnyH_take_dst (i := 4) (v := .pointer (some ⟨p, 0, none⟩)) (d := some 141) rfl rfl (by kernel_rfl) (by kernel_rfl) (by kernel_rfl) (fun _ _ _ h => h) (Or.inl ⟨by rfl, ?_⟩) hH ?_
                · (intro w' hE'; (try dsimp only at hE'); have y0 := Ext.keep hE' hpr; have y1 := Ext.keep hE' hqr; have y2 := Ext.keep hE' hhr; have y3 := Ext.keep hE' hjr; go_simp; try with_reducible rfl)
                try simp only [Act.put, List.setIfInBounds_toArray, List.set_cons_zero, List.set_cons_succ]
                refine wpAnyH_take_dst (i := 5) (v := .agg #[.slice AS 3 cS]) (d := some 142) rfl rfl (by kernel_rfl) (by kernel_rfl) (by kernel_rfl) (fun _ _ _ h => h) (Or.inl ⟨by rfl, ?_⟩) hH ?_
                · (intro w' hE'; (try dsimp only at hE'); have y0 := Ext.keep hE' hpr; have y1 := Ext.keep hE' hqr; have y2 := Ext.keep hE' hhr; have y3 := Ext.keep hE' hjr; go_simp; try with_reducible rfl)
                try simp only [Act.put, List.setIfInBounds_toArray, List.set_cons_zero, List.set_cons_succ]
                refine wpAnyH_take_dst (i := 6) (v := .pointer (some ⟨qb, 1, none⟩)) (d := some 143) rfl rfl (by kernel_rfl) (by kernel_rfl) (by kernel_rfl) (fun _ _ _ h => h) (Or.inl ⟨by rfl, ?_⟩) hH ?_
                · (intro w' hE'; (try dsimp only at hE'); have y0 := Ext.keep hE' hpr; have y1 := Ext.keep hE' hqr; have y2 := Ext.keep hE' hhr; have y3 := Ext.keep hE' hjr; go_simp; try with_reducible rfl)
                try simp only [Act.put, List.setIfInBounds_toArray, List.set_cons_zero, List.set_cons_succ]
                refine wpAnyH_take_dst (i := 7) (v := .slice (some ⟨rb, ro, none⟩) rn rc) (d := some 144) rfl rfl (by kernel_rfl) (by kernel_rfl) (by kernel_rfl) (fun _ _ _ h => h) (Or.inl ⟨by rfl, ?_⟩) hH ?_
                · (intro w' hE'; (try dsimp only at hE'); have y0 := Ext.keep hE' hpr; have y1 := Ext.keep hE' hqr; have y2 := Ext.keep hE' hhr; have y3 := Ext.keep hE' hjr; go_simp; try with_reducible rfl)
                try simp only [Act.put, List.setIfInBounds_toArray, List.set_cons_zero, List.set_cons_succ]
                refine wpAnyH_take_dst (i := 9) (v := .slice (some ⟨jb, jo, none⟩) jn jc) (d := some 146) rfl rfl (by kernel_rfl) (by kernel_rfl) (by kernel_rfl) (fun _ _ _ h => h) (Or.inl ⟨by rfl, ?_⟩) hH ?_
                · (intro w' hE'; (try dsimp only at hE'); have y0 := Ext.keep hE' hpr; have y1 := Ext.keep hE' hqr; have y2 := Ext.keep hE' hhr; have y3 := Ext.keep hE' hjr; go_simp; try with_reducible rfl)
                try simp only [Act.put, List.setIfInBounds_toArray, List.set_cons_zero, List.set_cons_succ]
                refine wpAnyH_take_dst (i := 10) (v := .pointer (some ⟨qb, 1, none⟩)) (d := some 147) rfl rfl (by kernel_rfl) (by kernel_rfl) (by kernel_rfl) (fun _ _ _ h => h) (Or.inl ⟨by rfl, ?_⟩) hH ?_
                · (intro w' hE'; (try dsimp only at hE'); have y0 := Ext.keep hE' hpr; have y1 := Ext.keep hE' hqr; have y2 := Ext.keep hE' hhr; have y3 := Ext.keep hE' hjr; go_simp; try with_reducible rfl)
                try simp only [Act.put, List.setIfInBounds_toArray, List.set_cons_zero, List.set_cons_succ]
                refine wpAnyH_take_dst (i := 11) (v := .slice (some ⟨rb, ro, none⟩) rn rc) (d := some 148) rfl rfl (by kernel_rfl) (by kernel_rfl) (by kernel_rfl) (fun _ _ _ h => h) (Or.inl ⟨by rfl, ?_⟩) hH ?_
                · (intro w' hE'; (try dsimp only at hE'); have y0 := Ext.keep hE' hpr; have y1 := Ext.keep hE' hqr; have y2 := Ext.keep hE' hhr; have y3 := Ext.keep hE' hjr; go_simp; try with_reducible rfl)
                try simp only [Act.put, List.setIfInBounds_toArray, List.set_cons_zero, List.set_cons_succ]
                refine wpAnyH_take_dst (i := 12) (v := .pointer (some ⟨rb, ro, none⟩)) (d := some 149) rfl rfl (by kernel_rfl) (by kernel_rfl) (by kernel_rfl) (fun _ _ _ h => h) (Or.inl ⟨by rfl, ?_⟩) hH ?_
                · (intro w' hE'; (try dsimp only at hE'); have y0 := Ext.keep hE' hpr; have y1 := Ext.keep hE' hqr; have y2 := Ext.keep hE' hhr; have y3 := Ext.keep hE' hjr; go_simp; try with_reducible rfl)
                try simp only [Act.put, List.setIfInBounds_toArray, List.set_cons_zero, List.set_cons_succ]
                refine wpAnyH_take_dst (i := 13) (v := .int .i64 (rf : Int)) (d := some 150) rfl rfl (by kernel_rfl) (by kernel_rfl) (by kernel_rfl) (fun _ _ _ h => h) (Or.inl ⟨by rfl, ?_⟩) hH ?_
                · (intro w' hE'; (try dsimp only at hE'); have y0 := Ext.keep hE' hpr; have y1 := Ext.keep hE' hqr; have y2 := Ext.keep hE' hhr; have y3 := Ext.keep hE' hjr; go_simp; try with_reducible rfl)
                try simp only [Act.put, List.setIfInBounds_toArray, List.set_cons_zero, List.set_cons_succ]
                refine wpAnyH_take_dst (i := 14) (v := .pointer (some ⟨jb, jo + rf, none⟩)) (d := some 151) rfl rfl (by kernel_rfl) (by kernel_rfl) (by kernel_rfl) (fun _ _ _ h => h) (Or.inl ⟨by rfl, ?_⟩) hH ?_
                · (intro w' hE'; (try dsimp only at hE'); have y0 := Ext.keep hE' hpr; have y1 := Ext.keep hE' hqr; have y2 := Ext.keep hE' hhr; have y3 := Ext.keep hE' hjr; go_simp; try with_reducible rfl)
                try simp only [Act.put, List.setIfInBounds_toArray, List.set_cons_zero, List.set_cons_succ]
                refine wpAnyH_take_dst (i := 15) (v := .int .i64 (ri : Int)) (d := some 152) rfl rfl (by kernel_rfl) (by kernel_rfl) (by kernel_rfl) (fun _ _ _ h => h) (Or.inl ⟨by rfl, ?_⟩) hH ?_
                · (intro w' hE'; (try dsimp only at hE'); have y0 := Ext.keep hE' hpr; have y1 := Ext.keep hE' hqr; have y2 := Ext.keep hE' hhr; have y3 := Ext.keep hE' hjr; go_simp; try with_reducible rfl)
                try simp only [Act.put, List.setIfInBounds_toArray, List.set_cons_zero, List.set_cons_succ]
                refine wpAnyH_ready (rs := [8]) (by kernel_rfl) (by simp) ?_
                refine AllReadyH.cons rfl (fun K hK => ?_) AllReadyH.nil
                rw [if_pos (by rfl)]
                go_wp2_with fail; (with_reducible refine (c_ArgsAtA rfl (HYr.out.ext hH).sig (RdI.mk (RI.ext HrI.out hH)) HrP.out HrK.out HrE.out).mono ?_); rintro e w8 ⟨A8, n8r, c8r, rfl, hO8, hE8⟩; have hX8 := Ext.trans hH hE8; obtain ⟨abr, aor, hA8, hc8⟩ := args_cell hO8.ri HrS.out; subst hA8; have hn8 := hO8.len; rw [starts_len] at hn8; have hb8 : (ri : Int) < (n8r : Int) := (by omega); have hb9 : ¬ n8r ≤ ri := (by omega)
                refine hK.out _ _ (hX8) (fun hH9 => ?_)
                clear hK; have hH0 := hH; clear hH; have hH := hH9; clear hH9
                try simp only [Act.put, List.setIfInBounds_toArray, List.set_cons_zero, List.set_cons_succ]
                refine wpAnyH_take_dst (i := 16) (v := .pointer (some ⟨abr, aor + ri, none⟩)) (d := some 153) rfl rfl (by kernel_rfl) (by kernel_rfl) (by kernel_rfl) (fun _ _ _ h => h) (Or.inl ⟨by rfl, ?_⟩) hH ?_
                · (intro w' hE'; (try dsimp only at hE'); have y0 := Ext.keep hE' hpr; have y1 := Ext.keep hE' hqr; have y2 := Ext.keep hE' hhr; have y3 := Ext.keep hE' hjr; go_simp; try with_reducible rfl)
                try simp only [Act.put, List.setIfInBounds_toArray, List.set_cons_zero, List.set_cons_succ]
                refine wpAnyH_ready (rs := [17]) (by kernel_rfl) (by simp) ?_
                refine AllReadyH.cons rfl (fun K hK => ?_) AllReadyH.nil
                rw [if_pos (by rfl)]
                go_wp2_with fail
                refine hK.out _ _ ((by first | exact hH | exact hX8 | exact hX8.drew)) (fun hH9 => ?_)
                clear hK; have hH0 := hH; clear hH; have hH := hH9; clear hH9
                try simp only [Act.put, List.setIfInBounds_toArray, List.set_cons_zero, List.set_cons_succ]
                refine wpAnyH_ready (rs := [18]) (by kernel_rfl) (by simp) ?_
                refine AllReadyH.cons rfl (fun K hK => ?_) AllReadyH.nil
                rw [if_pos (by rfl)]
                go_wp2_with fail; (with_reducible refine (c_SubAtA HrU.out (HYr.out.ext hH).sig (RI.ext HrI.out hH) HrC.out HrP.out HrL.out).mono ?_); rintro e w9 ⟨A9r, n9r, c9r, rfl, hO9, hE9⟩; have hX9 := Ext.trans hH hE9; have hn9 := hO9.len
                refine hK.out _ _ (hX9) (fun hH9 => ?_)
                clear hK; have hH0 := hH; clear hH; have hH := hH9; clear hH9
                try simp only [Act.put, List.setIfInBounds_toArray, List.set_cons_zero, List.set_cons_succ]
                refine wpAnyH_take_dst (i := 19) (v := .slice A9r n9r c9r) (d := some 20) rfl rfl (by kernel_rfl) (by kernel_rfl) (by kernel_rfl) (fun _ _ _ h => h) (Or.inl ⟨by rfl, ?_⟩) hH ?_
                · (intro w' hE'; (try dsimp only at hE'); have y0 := Ext.keep hE' hpr; have y1 := Ext.keep hE' hqr; have y2 := Ext.keep hE' hhr; have y3 := Ext.keep hE' hjr; go_simp; try with_reducible rfl)
                try simp only [Act.put, List.setIfInBounds_toArray, List.set_cons_zero, List.set_cons_succ]
                refine wpAnyH_done (by kernel_rfl) ?_ _
                exact ⟨abr, aor, n8r, c8r, A9r, n9r, c9r, by rfl, hn9.symm, hH⟩
              obtain ⟨abr, aor, n8r, c8r, A9r, n9r, c9r, ha, ⟨hn25, hE25⟩⟩ := hR
              simp only [Act.put, List.setIfInBounds_toArray, List.set_cons_zero, List.set_cons_succ] at ha
              subst ha
              have hge : ¬ ((n9r : Int) ≥ (n9l : Int)) := by have := HLESS.out; have := HN24.out; omega
              have hgd : decide ((n9r : Int) ≥ (n9l : Int)) = false := by simpa using hge
              have hE127 := Ext.trans hE12x (Ext.trans hE24 hE25)
              clear hn25 hpr hqr hhr hjr
              go_wp2_with fail
              go_roundw
              case rel => exact ⟨i + 1, by go_num, by omega, hE127⟩
              case measure => simp only [intOf]; omega
            · go_wp2_with fail
              go_ret
              exact ⟨rfl, Ext.trans hE012 hEr⟩

set_option maxRecDepth 100000 in
theorem lifted (os : Os) (started : os.Started) (H : Type) (enc : TypeId × Value → H) :
    ReturnsInHanded {} Try.checked os 6 .any (Rows.fnProjectionsSpec.pre6 enc Try.prog Try.f6 Rows.fnProjectionsRow.domain false) (Rows.fnProjectionsSpec.post enc Try.prog Try.f6 false true false false) := by
  refine returnsInHanded_of_change (C := Try.checked) own started (by kernel_rfl) Try.func6
    (ChangeSpec.witness6 (enc := enc) (C := Try.checked) false ⟨#[], #[.slice none 0 0], []⟩ 8 (by kernel_rfl) (by kernel_rfl) (by kernel_rfl) (by kernel_rfl)) ?_
  intro W base args ds gs before hval0 hW hcnd _
  have hval : ∀ (j : Nat) t v, Try.f6.params[j]? = some t → args[j]? = some v → Value.okWide Try.prog W .any base t v := hval0
  have hW' := hW
  obtain ⟨p, q, hA0, hV, rfl, hfz, hnd⟩ := hW
  have hA : DataW.TrodAll enc Try.prog W 0 (fun _ => true) true Try.f6.params.toList args.toList ds p := hA0
  rw [Try.params6] at hA hval
  obtain ⟨v0, vs0, d0, ds0, p0, q0, hargs, rfl, rfl, h0, r0⟩ := trodAll_cons hA
  obtain ⟨rfl, rfl, rfl⟩ := trodAll_nil r0
  obtain rfl : args = #[v0] := by cases args; simp_all
  obtain ⟨rfl, rfl⟩ := trodVars_none hV
  have k0 := h0
  have lt0 : ∀ x ∈ p0, x.block < W.heap.size := by obtain ⟨m, hm⟩ := k0; exact DataW.trod_lt m _ _ _ hm
  obtain ⟨x0, w0⟩ := raw_By (hval 0 55 v0 rfl rfl) h0
  clear hA0 hval0
  refine (walk w0).mono fun e W' ⟨he, bel⟩ => ?_
  subst he
  exact ⟨_, rfl, _, _, _, [], _, [], hW', trodAll_mk1 (shut_bool Try.underlying4 _), (trodAll_cons_mk (Below.trod laidOut (by kernel_rfl) (of_decide_eq_true (by kernel_rfl)) k0 bel lt0) trodAll_mk0), rfl, bel.frame _, fun h => by cases h⟩

theorem over : Rows.fnProjectionsRow.holds Try.pinned (OpenSpec.ofChange Rows.fnProjectionsSpec) :=
  OpenClaim.holds_of_wide 6 Try.f6 rfl rfl rfl rfl rfl rfl rfl ⟨rfl, rfl, rfl, rfl, rfl⟩ rfl rfl rfl rfl rfl (by kernel_rfl) Try.func6 (by kernel_rfl)
    (of_decide_eq_true (by kernel_rfl)) (by unfold Func.isWrapper; first | (rw [if_pos (by decide +kernel)]; kernel_rfl) | (rw [if_neg (by decide +kernel)]; exact ⟨rfl, rfl⟩))
    (fun os started H enc _ => lifted os started H enc)

theorem proved : Rows.FnProjectionsSaid := over

end Go.Proofs.Ytccahngnnfohcaa.FnProjections
