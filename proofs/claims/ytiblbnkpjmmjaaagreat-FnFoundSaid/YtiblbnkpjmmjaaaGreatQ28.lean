/- -/
import Derived.Test.YtiblbnkpjmmjaaaGreatQ27
set_option maxRecDepth 100000
set_option maxHeartbeats 16000000
set_option linter.all false
namespace Go.Proofs.YtiblbnkpjmmjaaaGreat
theorem x0q28 {p:Prop} (h:p:=by rw [HR.out];rfl):p:=h
open Go.RowKit
theorem c_l13Reason {Y:SC} {i j:Nat} {x y:Int} {us ss:List Tm} {V:Nat→Nat→Int} {W:Tm→Tm→Nat} {w:World} {r0:Nat} (hr0:lpoB (rkF Y.rk) true W (.node x us) (.node y ss)=r0) (hP:Y.P) (h:Y.H w V) (hA:Y.At i j y ss x us)
 (hV1:∀ k a,us[k]?=some a→Told (V i (pl j us k)) (W a (.node y ss))) (hV2:∀ k b,ss[k]?=some b→Told (V (pl i ss k) j) (W (.node x us) b)) (hV3:∀ k a b,us[k]?=some a→ss[k]?=some b→Told (V (pl i ss k) (pl j us k)) (W a b)) :
 Calls Tryz.prog 76 #[.pointer (some ⟨Y.g,0,none⟩),.int .i64 (i:Int),.int .i64 (j:Int)] w fun e w'=>e=.returned (.int .i64 (r0:Int))∧Ext w w':=by
 have hP':=hP;have hik:i < Y.k:=by rw [← h.s.len];exact hA.hi
 have hjm:j < Y.m:=by rw [← h.t.len];exact hA.hj
 have hi0:(0:Int)≤(i:Int):=by omega
 have hj0:(0:Int)≤(j:Int):=by omega
 have hii:(i:Int) < (Y.k:Int):=by omega
 have hjj:(j:Int) < (Y.m:Int):=by omega
 have c1:=h.c1;have c2:=h.c2;have c3:=h.c3;have wy:=h.wy i hik;have HH:=Zh h;have HP:=Zh hP;have HA:=Zh hA;have hcx:=h.at_t hP hA;have hcy:=h.at_s hP hA;have hxn:=arI_lt (Ok_node.1 (hA.ok hP).2).1;have hyn:=arI_lt (Ok_node.1 (hA.ok hP).1).1;rw [h.a.len] at hxn hyn;have hxy:x=y→us.length=ss.length:=by
  rintro rfl;have e1:=(Ok_node.1 (hA.ok hP).1).1;rw [(Ok_node.1 (hA.ok hP).2).1] at e1;injection e1 with e1
 have HXY:=Zh hxy;have HR0:=Zh hr0;have HV1:=Zh hV1;have HV2:=Zh hV2;have HV3:=Zh hV3;clear h hP hP' hA hV1 hV2 hV3 hr0 wy hxy;cases hag:argG W us (.node y ss) with
 | true=>
  have HAG:=Zh hag;have HX:x < 0→False:=fun hx=>by
   have e:=(Ok_node.1 (HA.out.ok HP.out).2).1;unfold arI at e;rw [if_pos hx] at e;have e2:us.length=0:=by injection e with e;exact e.symm
   rw [List.length_eq_zero_iff.1 e2] at hag;cases hag
  have HX0:=Zh (show 0≤x by rcases Int.lt_or_le x 0 with h | h;exact (HX h).elim;exact h);have HR:=Zh (show r0=1 by rw [← HR0.out,lpoB_1 HX0.out HAG.out]);clear hag HX;go_enter Tryz.func76,Tryz.ntmps76;go_wp2_with fail
  (with_reducible refine (c_l13Arg HAG.out HP.out HH.out HA.out HV1.out).mono ?_);rintro e w1 ⟨rfl,hE1⟩;go_wp2;go_ret;exact ⟨ret_int x0q28,hE1⟩
 | false=>
  have HAG:=Zh hag;clear hag;by_cases hneg:y < 0∨x < 0
  .have HR:=Zh (show r0=0 by
    rw [← HR0.out];rcases Int.lt_or_le x 0 with h | h
    .exact lpoB_var h
    .rw [lpoB_rest h HAG.out,if_pos (hneg.resolve_right (Int.not_lt.2 h))])
   have hd1:decide (y < 0)=true∨(decide (y < 0)=false∧decide (x < 0)=true):=by
    rcases Int.lt_or_le y 0 with h | h
    .exact .inl (by simpa using h)
    .exact .inr ⟨by simpa using h,by simpa using hneg.resolve_left (Int.not_lt.2 h)⟩
   clear hneg;rcases hd1 with hd1 | ⟨hd1,hd2⟩
   all_goals
    go_enter Tryz.func76,Tryz.ntmps76;go_wp2_with fail
    (with_reducible refine (c_l13Arg HAG.out HP.out HH.out HA.out HV1.out).mono ?_);rintro e w1 ⟨rfl,hE1⟩;go_wp2;go_ret;exact ⟨ret_int x0q28,hE1⟩
  .obtain ⟨x0,rfl⟩:=Int.eq_ofNat_of_zero_le (show 0≤x by omega);obtain ⟨y0,rfl⟩:=Int.eq_ofNat_of_zero_le (show 0≤y by omega);clear hneg;have HREST:=Zh (HR0.out.symm.trans ((lpoB_rest Zo HAG.out).trans (if_neg Zo)));obtain ⟨b6,o6,zx,e6,hzx,d7⟩:=RI.at_ HH.out.r (show x0 < Y.n by omega);cases e6;obtain ⟨b7,o7,zy,e7,hzy,d8⟩:=RI.at_ HH.out.r (show y0 < Y.n by omega);cases e7;have HKX:=Zh (show rkF Y.rk (x0:Int)=zx by unfold rkF;rw [Int.toNat_natCast,List.getD_eq_getElem?_getD,hzx];rfl);have HKY:=Zh (show rkF Y.rk (y0:Int)=zy by unfold rkF;rw [Int.toNat_natCast,List.getD_eq_getElem?_getD,hzy];rfl);have hy0n:(y0:Int) < (Y.n:Int):=by omega
   have hx00:(0:Int)≤(x0:Int):=by omega
   have hy00:(0:Int)≤(y0:Int):=by omega
   clear hzx hzy;by_cases hxy:x0=y0
   .subst hxy;have hzz:zy=zx:=by rw [d7] at d8;injection d8 with d8;injection d8 with _ d8;exact d8.symm
    subst hzz;have HLEN:=Zh (HXY.out rfl);have HR2:=Zh (HREST.out.trans (if_pos rfl));have hdl:decide (zy < zy)=false:=by simp
    have hxe:((x0:Int) == (x0:Int))=true:=by simp
    cases hov:overG W (.node (x0:Int) us) ss with
    | false=>
     have HOV:=Zh hov;have HR:=Zh (show r0=0 by rw [HR2.out,hov];rfl);clear hov;go_enter Tryz.func76,Tryz.ntmps76;go_wp2_with fail
     (with_reducible refine (c_l13Arg HAG.out HP.out HH.out HA.out HV1.out).mono ?_);rintro e w1 ⟨rfl,hE1⟩;have HH1:=Zh (HH.out.ext hE1);have c11:=Ext.keep hE1 c1;have d71:=Ext.keep hE1 d7;have d81:=Ext.keep hE1 d8;go_wp2_with fail;refine wp_region_held_drew (S:=(fun w'=>Ext w1 w'∧w'.cell? ⟨Y.g,1,none⟩=some (.slice (some ⟨Y.rb,Y.ro,none⟩) Y.n Y.rc)∧w'.cell? ⟨Y.rb,Y.ro+x0,none⟩=some (.int .i64 zy)∧w'.cell? ⟨Y.rb,Y.ro+x0,none⟩=some (.int .i64 zy))) Zk ?_ (fun hH=>?_)
     .exact ⟨(Ext.refl w1).drew,c11,d71,d81⟩
     refine s6Z0 0 (.pointer (some ⟨Y.g,0,none⟩)) 36 1 (.pointer (some ⟨Y.g,0,none⟩)) 37 2 (.pointer (some ⟨Y.g,1,none⟩)) 38 3 (.slice (some ⟨Y.rb,Y.ro,none⟩) Y.n Y.rc) 39 4 (.int .i64 (x0:Int)) 40 5 (.pointer (some ⟨Y.rb,Y.ro+x0,none⟩)) 41 hH ?_;refine s6Z0 6 (.int .i64 zy) 42 7 (.pointer (some ⟨Y.g,0,none⟩)) 43 8 (.pointer (some ⟨Y.g,0,none⟩)) 44 9 (.pointer (some ⟨Y.g,1,none⟩)) 45 10 (.slice (some ⟨Y.rb,Y.ro,none⟩) Y.n Y.rc) 46 11 (.int .i64 (x0:Int)) 47 hH ?_;refine s4Z0 12 (.pointer (some ⟨Y.rb,Y.ro+x0,none⟩)) 48 13 (.int .i64 zy) 49 14 (.bool false) 50 15 (.bool false) 51 hH ?_;refine Zn 16 52 hH ?_;refine Zn 17 53 hH ?_;refine Zn 18 54 hH ?_;refine Zn 19 55 hH ?_;refine s2Z0 20 (.bool false) 56 21 (.bool false) 35 hH ?_;refine wpAnyH_done Zk ?_ _;obtain ⟨hE2,_,_,_⟩:=hH;have HH2:=Zh (HH1.out.ext hE2);go_wp2_with fail
     (with_reducible refine (c_l13Over HOV.out HP.out HH2.out HA.out HV2.out).mono ?_);rintro e w3 ⟨rfl,hE3⟩;go_wp2;go_ret;exact ⟨ret_int x0q28,Ext.trans hE1 (Ext.trans hE2 hE3)⟩
    | true=>
     have HOV:=Zh hov;obtain ⟨bl,hbl⟩:∃ bl,lexG W us ss=bl:=⟨_,rfl⟩;have HBL:=Zh hbl;have HR:=Zh (show r0=if bl=true then 3 else 0 by rw [HR2.out,hov,hbl];first | done | rfl | simp);clear hov hbl;go_enter Tryz.func76,Tryz.ntmps76;go_wp2_with fail
     (with_reducible refine (c_l13Arg HAG.out HP.out HH.out HA.out HV1.out).mono ?_);rintro e w1 ⟨rfl,hE1⟩;have HH1:=Zh (HH.out.ext hE1);have c11:=Ext.keep hE1 c1;have d71:=Ext.keep hE1 d7;have d81:=Ext.keep hE1 d8;go_wp2_with fail;refine wp_region_held_drew (S:=(fun w'=>Ext w1 w'∧w'.cell? ⟨Y.g,1,none⟩=some (.slice (some ⟨Y.rb,Y.ro,none⟩) Y.n Y.rc)∧w'.cell? ⟨Y.rb,Y.ro+x0,none⟩=some (.int .i64 zy)∧w'.cell? ⟨Y.rb,Y.ro+x0,none⟩=some (.int .i64 zy))) Zk ?_ (fun hH=>?_)
     .exact ⟨(Ext.refl w1).drew,c11,d71,d81⟩
     refine s6Z0 0 (.pointer (some ⟨Y.g,0,none⟩)) 36 1 (.pointer (some ⟨Y.g,0,none⟩)) 37 2 (.pointer (some ⟨Y.g,1,none⟩)) 38 3 (.slice (some ⟨Y.rb,Y.ro,none⟩) Y.n Y.rc) 39 4 (.int .i64 (x0:Int)) 40 5 (.pointer (some ⟨Y.rb,Y.ro+x0,none⟩)) 41 hH ?_;refine s6Z0 6 (.int .i64 zy) 42 7 (.pointer (some ⟨Y.g,0,none⟩)) 43 8 (.pointer (some ⟨Y.g,0,none⟩)) 44 9 (.pointer (some ⟨Y.g,1,none⟩)) 45 10 (.slice (some ⟨Y.rb,Y.ro,none⟩) Y.n Y.rc) 46 11 (.int .i64 (x0:Int)) 47 hH ?_;refine s4Z0 12 (.pointer (some ⟨Y.rb,Y.ro+x0,none⟩)) 48 13 (.int .i64 zy) 49 14 (.bool false) 50 15 (.bool false) 51 hH ?_;refine Zn 16 52 hH ?_;refine Zn 17 53 hH ?_;refine Zn 18 54 hH ?_;refine Zn 19 55 hH ?_;refine s2Z0 20 (.bool false) 56 21 (.bool false) 35 hH ?_;refine wpAnyH_done Zk ?_ _;obtain ⟨hE2,_,_,_⟩:=hH;have HH2:=Zh (HH1.out.ext hE2);go_wp2_with fail
     (with_reducible refine (c_l13Over HOV.out HP.out HH2.out HA.out HV2.out).mono ?_);rintro e w3 ⟨rfl,hE3⟩;have HH3:=Zh (HH2.out.ext hE3);go_wp2_with fail
     (with_reducible refine (c_l13First HBL.out HP.out HH3.out HA.out HLEN.out HV3.out).mono ?_);rintro e w4 ⟨rfl,hE4⟩;cases bl with
     | true=>
      go_wp2;go_ret;exact ⟨ret_int x0q28,Ext.trans hE1 (Ext.trans hE2 (Ext.trans hE3 hE4))⟩
     | false=>
      go_wp2;go_ret;exact ⟨ret_int x0q28,Ext.trans hE1 (Ext.trans hE2 (Ext.trans hE3 hE4))⟩
   .have HR2:=Zh (HREST.out.trans (if_neg Zo));have hxe:((y0:Int) == (x0:Int))=false:=by simp;omega
    by_cases hlt:zy < zx
    .have hdl:decide (zy < zx)=true:=by simpa using hlt
     have hlt2:rkF Y.rk (y0:Int) < rkF Y.rk (x0:Int):=by rw [HKX.out,HKY.out];exact hlt
     cases hov:overG W (.node (x0:Int) us) ss with
     | true=>
      have HOV:=Zh hov;have HR:=Zh (show r0=2 by rw [HR2.out,if_pos ⟨hlt2,hov⟩]);clear hov hlt hlt2 hxy;go_enter Tryz.func76,Tryz.ntmps76;go_wp2_with fail
      (with_reducible refine (c_l13Arg HAG.out HP.out HH.out HA.out HV1.out).mono ?_);rintro e w1 ⟨rfl,hE1⟩;have HH1:=Zh (HH.out.ext hE1);have c11:=Ext.keep hE1 c1;have d71:=Ext.keep hE1 d7;have d81:=Ext.keep hE1 d8;go_wp2_with fail;refine wp_region_held_drew (S:=(fun w'=>Ext w1 w'∧w'.cell? ⟨Y.g,1,none⟩=some (.slice (some ⟨Y.rb,Y.ro,none⟩) Y.n Y.rc)∧w'.cell? ⟨Y.rb,Y.ro+x0,none⟩=some (.int .i64 zx)∧w'.cell? ⟨Y.rb,Y.ro+y0,none⟩=some (.int .i64 zy))) Zk ?_ (fun hH=>?_)
      .exact ⟨(Ext.refl w1).drew,c11,d71,d81⟩
      refine s6Z0 0 (.pointer (some ⟨Y.g,0,none⟩)) 36 1 (.pointer (some ⟨Y.g,0,none⟩)) 37 2 (.pointer (some ⟨Y.g,1,none⟩)) 38 3 (.slice (some ⟨Y.rb,Y.ro,none⟩) Y.n Y.rc) 39 4 (.int .i64 (y0:Int)) 40 5 (.pointer (some ⟨Y.rb,Y.ro+y0,none⟩)) 41 hH ?_;refine s6Z0 6 (.int .i64 zy) 42 7 (.pointer (some ⟨Y.g,0,none⟩)) 43 8 (.pointer (some ⟨Y.g,0,none⟩)) 44 9 (.pointer (some ⟨Y.g,1,none⟩)) 45 10 (.slice (some ⟨Y.rb,Y.ro,none⟩) Y.n Y.rc) 46 11 (.int .i64 (x0:Int)) 47 hH ?_;refine s6Z0 12 (.pointer (some ⟨Y.rb,Y.ro+x0,none⟩)) 48 13 (.int .i64 zx) 49 14 (.bool true) 50 15 (.bool true) 51 16 (.pointer (some ⟨Y.g,0,none⟩)) 52 17 (.int .i64 (i:Int)) 53 hH ?_;refine s1Z0 18 (.int .i64 (j:Int)) 54 hH ?_;refine Z4 19 fun K hK=>?_;go_wp2_with (go_at_call 79;(with_reducible refine ((c_l13Over HOV.out HP.out (HH1.out.ext hH.1) HA.out HV2.out)).mono ?_);rintro e w2 ⟨rfl,hE9⟩)
      refine hK.out _ _ ⟨Ext.trans hH.1 hE9,Ext.keep hE9 hH.2.1,Ext.keep hE9 hH.2.2.1,Ext.keep hE9 hH.2.2.2⟩ (fun hH9=>?_);clear hK hH;rename _=>hH;try simp only [Act.put,Zl]
      refine s2Z0 20 (.bool true) 56 21 (.bool true) 35 hH ?_;refine wpAnyH_done Zk ?_ _;obtain ⟨hE2,_,_,_⟩:=hH;go_wp2;go_ret;exact ⟨ret_int x0q28,Ext.trans hE1 hE2⟩
     | false=>
      have HOV:=Zh hov;have HR:=Zh (show r0=0 by rw [HR2.out,if_neg (fun h=>by rw [hov] at h;cases h.2)]);clear hov hlt hlt2 hxy;go_enter Tryz.func76,Tryz.ntmps76;go_wp2_with fail
      (with_reducible refine (c_l13Arg HAG.out HP.out HH.out HA.out HV1.out).mono ?_);rintro e w1 ⟨rfl,hE1⟩;have HH1:=Zh (HH.out.ext hE1);have c11:=Ext.keep hE1 c1;have d71:=Ext.keep hE1 d7;have d81:=Ext.keep hE1 d8;go_wp2_with fail;refine wp_region_held_drew (S:=(fun w'=>Ext w1 w'∧w'.cell? ⟨Y.g,1,none⟩=some (.slice (some ⟨Y.rb,Y.ro,none⟩) Y.n Y.rc)∧w'.cell? ⟨Y.rb,Y.ro+x0,none⟩=some (.int .i64 zx)∧w'.cell? ⟨Y.rb,Y.ro+y0,none⟩=some (.int .i64 zy))) Zk ?_ (fun hH=>?_)
      .exact ⟨(Ext.refl w1).drew,c11,d71,d81⟩
      refine s6Z0 0 (.pointer (some ⟨Y.g,0,none⟩)) 36 1 (.pointer (some ⟨Y.g,0,none⟩)) 37 2 (.pointer (some ⟨Y.g,1,none⟩)) 38 3 (.slice (some ⟨Y.rb,Y.ro,none⟩) Y.n Y.rc) 39 4 (.int .i64 (y0:Int)) 40 5 (.pointer (some ⟨Y.rb,Y.ro+y0,none⟩)) 41 hH ?_;refine s6Z0 6 (.int .i64 zy) 42 7 (.pointer (some ⟨Y.g,0,none⟩)) 43 8 (.pointer (some ⟨Y.g,0,none⟩)) 44 9 (.pointer (some ⟨Y.g,1,none⟩)) 45 10 (.slice (some ⟨Y.rb,Y.ro,none⟩) Y.n Y.rc) 46 11 (.int .i64 (x0:Int)) 47 hH ?_;refine s6Z0 12 (.pointer (some ⟨Y.rb,Y.ro+x0,none⟩)) 48 13 (.int .i64 zx) 49 14 (.bool true) 50 15 (.bool true) 51 16 (.pointer (some ⟨Y.g,0,none⟩)) 52 17 (.int .i64 (i:Int)) 53 hH ?_;refine s1Z0 18 (.int .i64 (j:Int)) 54 hH ?_;refine Z4 19 fun K hK=>?_;go_wp2_with (go_at_call 79;(with_reducible refine ((c_l13Over HOV.out HP.out (HH1.out.ext hH.1) HA.out HV2.out)).mono ?_);rintro e w2 ⟨rfl,hE9⟩)
      refine hK.out _ _ ⟨Ext.trans hH.1 hE9,Ext.keep hE9 hH.2.1,Ext.keep hE9 hH.2.2.1,Ext.keep hE9 hH.2.2.2⟩ (fun hH9=>?_);clear hK hH;rename _=>hH;try simp only [Act.put,Zl]
      refine s2Z0 20 (.bool false) 56 21 (.bool false) 35 hH ?_;refine wpAnyH_done Zk ?_ _;obtain ⟨hE2,_,_,_⟩:=hH;go_wp2;go_ret;exact ⟨ret_int x0q28,Ext.trans hE1 hE2⟩
    .have hdl:decide (zy < zx)=false:=by simpa using hlt
     have HR:=Zh (show r0=0 by rw [HR2.out,if_neg (fun h=>hlt (by have:=h.1;rw [HKX.out,HKY.out] at this;exact this))]);clear hlt hxy;go_enter Tryz.func76,Tryz.ntmps76;go_wp2_with fail
     (with_reducible refine (c_l13Arg HAG.out HP.out HH.out HA.out HV1.out).mono ?_);rintro e w1 ⟨rfl,hE1⟩;have HH1:=Zh (HH.out.ext hE1);have c11:=Ext.keep hE1 c1;have d71:=Ext.keep hE1 d7;have d81:=Ext.keep hE1 d8;go_wp2_with fail;refine wp_region_held_drew (S:=(fun w'=>Ext w1 w'∧w'.cell? ⟨Y.g,1,none⟩=some (.slice (some ⟨Y.rb,Y.ro,none⟩) Y.n Y.rc)∧w'.cell? ⟨Y.rb,Y.ro+x0,none⟩=some (.int .i64 zx)∧w'.cell? ⟨Y.rb,Y.ro+y0,none⟩=some (.int .i64 zy))) Zk ?_ (fun hH=>?_)
     .exact ⟨(Ext.refl w1).drew,c11,d71,d81⟩
     refine s6Z0 0 (.pointer (some ⟨Y.g,0,none⟩)) 36 1 (.pointer (some ⟨Y.g,0,none⟩)) 37 2 (.pointer (some ⟨Y.g,1,none⟩)) 38 3 (.slice (some ⟨Y.rb,Y.ro,none⟩) Y.n Y.rc) 39 4 (.int .i64 (y0:Int)) 40 5 (.pointer (some ⟨Y.rb,Y.ro+y0,none⟩)) 41 hH ?_;refine s6Z0 6 (.int .i64 zy) 42 7 (.pointer (some ⟨Y.g,0,none⟩)) 43 8 (.pointer (some ⟨Y.g,0,none⟩)) 44 9 (.pointer (some ⟨Y.g,1,none⟩)) 45 10 (.slice (some ⟨Y.rb,Y.ro,none⟩) Y.n Y.rc) 46 11 (.int .i64 (x0:Int)) 47 hH ?_;refine s4Z0 12 (.pointer (some ⟨Y.rb,Y.ro+x0,none⟩)) 48 13 (.int .i64 zx) 49 14 (.bool false) 50 15 (.bool false) 51 hH ?_;refine Zn 16 52 hH ?_;refine Zn 17 53 hH ?_;refine Zn 18 54 hH ?_;refine Zn 19 55 hH ?_;refine s2Z0 20 (.bool false) 56 21 (.bool false) 35 hH ?_;refine wpAnyH_done Zk ?_ _;obtain ⟨hE2,_,_,_⟩:=hH;go_wp2;go_ret;exact ⟨ret_int x0q28,Ext.trans hE1 hE2⟩

