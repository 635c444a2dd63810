/- -/
import Derived.Test.YtiblbnkpjmmjaaaGreatQ26
import Derived.Test.YtiblbnkpjmmjaaaGreatQ22
set_option maxRecDepth 100000
set_option maxHeartbeats 16000000
set_option linter.all false
namespace Go.Proofs.YtiblbnkpjmmjaaaGreat
theorem x0q27 {p:Prop} (h:p:=by rw [← h.t.len];exact hA.hj):p:=h
theorem x1q27 {p:Prop} (h:p:=by rw [← h.s.len];exact hA.hi):p:=h
open Go.RowKit
def Told (v:Int) (n:Nat):Prop:=(0 < v↔0 < n)∧(v=0↔¬ 0 < n)
theorem SC.H.at_t {Y:SC} {w:World} {V:Nat→Nat→Int} (h:Y.H w V) (hP:Y.P) {i j:Nat} {x y:Int} {us ss:List Tm} (hA:Y.At i j y ss x us):w.cell? ⟨Y.tb,Y.tq+j,none⟩=some (.int .i64 x):=by
 have hj:j < Y.m:=x0q27;obtain ⟨b,o,z,e,hz,hc⟩:=RI.at_ h.t hj;cases e;obtain ⟨h1,rest,h2⟩:=subT_ok hP.tt hA.hj;rw [hA.tj] at h2;rw [at_of h2] at hz;cases hz;exact hc
theorem SC.H.at_s {Y:SC} {w:World} {V:Nat→Nat→Int} (h:Y.H w V) (hP:Y.P) {i j:Nat} {x y:Int} {us ss:List Tm} (hA:Y.At i j y ss x us):w.cell? ⟨Y.sb,Y.so+i,none⟩=some (.int .i64 y):=by
 have hi:i < Y.k:=x1q27;obtain ⟨b,o,z,e,hz,hc⟩:=RI.at_ h.s hi;cases e;obtain ⟨h1,rest,h2⟩:=subT_ok hP.ts hA.hi;rw [hA.si] at h2;rw [at_of h2] at hz;cases hz;exact hc
theorem SC.H.args_t {Y:SC} {w:World} {V:Nat→Nat→Int} (h:Y.H w V) {i j:Nat} {x y:Int} {us ss:List Tm} (hA:Y.At i j y ss x us):∃ (A:Option Addr) (c:Nat),w.cell? ⟨Y.qa,j,none⟩=some (.slice A us.length c)∧RI w A us.length (starts (j+1) us):=by
 obtain ⟨A,c,h1,h2,_⟩:=h.ta j hA.hj;rw [hA.tj] at h1 h2;exact ⟨A,c,h1,h2⟩
theorem SC.H.args_s {Y:SC} {w:World} {V:Nat→Nat→Int} (h:Y.H w V) {i j:Nat} {x y:Int} {us ss:List Tm} (hA:Y.At i j y ss x us):∃ (A:Option Addr) (c:Nat),w.cell? ⟨Y.pa,i,none⟩=some (.slice A ss.length c)∧RI w A ss.length (starts (i+1) ss):=by
 obtain ⟨A,c,h1,h2,_⟩:=h.sa i hA.hi;rw [hA.si] at h1 h2;exact ⟨A,c,h1,h2⟩
theorem SC.At.pt {Y:SC} (hP:Y.P) {i j k:Nat} {x y:Int} {us ss:List Tm} (hA:Y.At i j y ss x us) {a:Tm} (ha:us[k]?=some a):pl j us k < Y.t.length∧subT Y.ar Y.t (pl j us k)=a:=pl_at hP.tt hA.hj hA.tj ha
theorem SC.At.ps {Y:SC} (hP:Y.P) {i j k:Nat} {x y:Int} {us ss:List Tm} (hA:Y.At i j y ss x us) {b:Tm} (hb:ss[k]?=some b):pl i ss k < Y.s.length∧subT Y.ar Y.s (pl i ss k)=b:=pl_at hP.ts hA.hi hA.si hb
theorem mq27 {p:Prop} (h:p:=by simp only [intOf];omega):p:=h
theorem c_l13Arg {Y:SC} {i j:Nat} {x y:Int} {us ss:List Tm} {V:Nat→Nat→Int} {W:Tm→Tm→Nat} {w:World} {b0:Bool} (hb0:argG W us (.node y ss)=b0) (hP:Y.P) (h:Y.H w V) (hA:Y.At i j y ss x us) (hV:∀ k a,us[k]?=some a→Told (V i (pl j us k)) (W a (.node y ss))) :
 Calls Tryz.prog 77 #[.pointer (some ⟨Y.g,0,none⟩),.int .i64 (i:Int),.int .i64 (j:Int)] w fun e w'=>e=.returned (.bool b0)∧Ext w w':=by
 have hP':=hP;have hik:i < Y.k:=x1q27;have hjm:j < Y.m:=x0q27;have hi0:(0:Int)≤(i:Int):=by omega
 have hj0:(0:Int)≤(j:Int):=by omega
 have hii:(i:Int) < (Y.k:Int):=by omega
 have hjj:(j:Int) < (Y.m:Int):=by omega
 have c5:=h.c5;have c6:=h.c6;have wy:=h.wy i hik;have HH:=Zh h;have HP:=Zh hP;have HA:=Zh hA;have HV:=Zh hV;have HB0:=Zh hb0;obtain ⟨A,cA,hca,hra⟩:=h.args_t hA;have HRA:=Zh hra;have hul:=hra.le;have HI:=Zh hA.hi;clear h hP hP' hA hV hb0 hra;go_enter Tryz.func77,Tryz.ntmps77;go_wp2_with fail;go_loopw [7] (fun iv wr=>∃ q:Nat,iv=.int .i64 q∧q≤us.length∧Hid (∀ (p:Nat) (a:Tm),p < q→us[p]?=some a→a≠.node y ss∧¬ 0 < W a (.node y ss))∧Ext w wr) (fun iv _=>us.length - (intOf iv).toNat)
 case atStart=>exact ⟨0,rfl,Nat.zero_le _,Zh (fun p a hp=>Zo),Ext.refl _⟩
 case round=>
  obtain ⟨q,rfl,hq,hno,hE⟩:=hrel;have HHr:=Zh (HH.out.ext hE);have r5:=Ext.keep hE c5;have r6:=Ext.keep hE c6;have ra:=Ext.keep hE hca;have ry:=Ext.keep hE wy;by_cases hlt:q < us.length
  .obtain ⟨a,ha⟩:∃ a,us[q]?=some a:=⟨us[q],List.getElem?_eq_getElem hlt⟩;obtain ⟨hpq,hsub⟩:=HA.out.pt HP.out ha;obtain ⟨b,o,rfl,hcx⟩:=RI.starts_at (RI.ext HRA.out hE) hlt;have hv:=HV.out q a ha;obtain ⟨P1,hP1⟩:∃ P1,P1=pl j us q:=⟨_,rfl⟩;rw [← hP1] at hcx hpq hsub hv;have hpm:P1 < Y.m:=by rw [← HH.out.t.len];exact hpq
   obtain ⟨vv,hvv⟩:∃ vv,vv=V i P1:=⟨_,rfl⟩;rw [← hvv] at hv;have rv:wr.cell? ⟨Y.row i,P1,none⟩=some (.int .i64 vv):=by rw [hvv];exact HHr.out.v i P1 hik hpm
   have hq1:(q:Int) < (us.length:Int):=by omega
   have hq0:(0:Int)≤(q:Int):=by omega
   have hp1:(P1:Int) < (Y.m:Int):=by omega
   have hp0:(0:Int)≤(P1:Int):=by omega
   have HPQ:=Zh hpq;have HVV:=Zh hv;have HAK:=Zh ha;have HEQ:=Zh (show ((subT Y.ar Y.s i).flat == (subT Y.ar Y.t P1).flat)=true↔a=.node y ss by
    rw [hsub,HA.out.si,beq_iff_eq];have e:=flat_eq (HA.out.ok HP.out).1 (OkL_iff.1 (Ok_node.1 (HA.out.ok HP.out).2).2 a (List.mem_of_getElem? ha));rw [e];exact eq_comm)
   clear ha hpq hsub hv hP1 hvv;by_cases heq:a=.node y ss
   .have HSE:=Zh (HEQ.out.2 heq);have HR:=Zh (HB0.out.symm.trans (argG_t HAK.out (.inl heq)));clear heq;go_wp2_with fail;refine wp_region_held_drew (S:=(fun w'=>Ext wr w'∧w'.cell? ⟨Y.g,5,none⟩=some (.slice (some ⟨Y.qa,0,none⟩) Y.m Y.qc)∧w'.cell? ⟨Y.g,6,none⟩=some (.slice (some ⟨Y.wb,0,none⟩) Y.k Y.wc)∧w'.cell? ⟨Y.qa,j,none⟩=some (.slice (some ⟨b,o,none⟩) us.length cA)∧w'.cell? ⟨b,o+q,none⟩=some (.int .i64 (P1:Int))∧w'.cell? ⟨Y.wb,i,none⟩=some (.slice (some ⟨Y.row i,0,none⟩) Y.m Y.m)∧w'.cell? ⟨Y.row i,P1,none⟩=some (.int .i64 vv))) Zk ?_ (fun hH=>?_)
    .exact ⟨(Ext.refl wr).drew,r5,r6,ra,hcx,ry,rv⟩
    refine s6Z0 0 (.pointer (some ⟨Y.g,0,none⟩)) 20 1 (.int .i64 (i:Int)) 21 2 (.pointer (some ⟨Y.g,0,none⟩)) 22 3 (.pointer (some ⟨Y.g,0,none⟩)) 23 4 (.pointer (some ⟨Y.g,5,none⟩)) 24 5 (.slice (some ⟨Y.qa,0,none⟩) Y.m Y.qc) 25 hH ?_;refine s6Z0 6 (.int .i64 (j:Int)) 26 7 (.pointer (some ⟨Y.qa,j,none⟩)) 27 8 (.slice (some ⟨b,o,none⟩) us.length cA) 28 9 (.int .i64 (q:Int)) 29 10 (.pointer (some ⟨b,o+q,none⟩)) 30 11 (.int .i64 (P1:Int)) 31 hH ?_;refine Z4 12 fun K hK=>?_;go_wp2_with (go_at_call 105;(with_reducible refine ((c_l13Same HSE.out HP.out (HHr.out.ext hH.1) HI.out HPQ.out)).mono ?_);rintro e w5 ⟨rfl,hE9⟩)
    refine hK.out _ _ ⟨Ext.trans hH.1 hE9,Ext.keep hE9 hH.2.1,Ext.keep hE9 hH.2.2.1,Ext.keep hE9 hH.2.2.2.1,Ext.keep hE9 hH.2.2.2.2.1,Ext.keep hE9 hH.2.2.2.2.2.1,Ext.keep hE9 hH.2.2.2.2.2.2⟩ (fun hH9=>?_);clear hK hH;rename _=>hH;try simp only [Act.put,Zl]
    refine s1Z0 13 (.bool true) 33 hH ?_;refine Zn 14 34 hH ?_;refine Zn 15 35 hH ?_;refine Zn 16 36 hH ?_;refine Zn 17 37 hH ?_;refine Zn 18 38 hH ?_;refine Zn 19 39 hH ?_;refine Zn 20 40 hH ?_;refine Zn 21 41 hH ?_;refine Zn 22 42 hH ?_;refine Zn 23 43 hH ?_;refine Zn 24 44 hH ?_;refine Zn 25 45 hH ?_;refine Zn 26 46 hH ?_;refine Zn 27 47 hH ?_;refine Zn 28 48 hH ?_;refine Zn 29 49 hH ?_;refine Zn 30 50 hH ?_;refine Zn 31 51 hH ?_;refine Zn 32 52 hH ?_;refine Zn 33 53 hH ?_;refine s1Z0 34 (.bool true) 54 hH ?_;refine wpAnyH_done Zk ?_ _;obtain ⟨hE5,_,_,_,_,_,_⟩:=hH;go_wp2;go_ret;exact ⟨ret_bool HR.out.symm,Ext.trans hE hE5⟩
   .have HSE:=Zh (show ((subT Y.ar Y.s i).flat == (subT Y.ar Y.t P1).flat)=false by
     cases h:((subT Y.ar Y.s i).flat == (subT Y.ar Y.t P1).flat) with
     | true=>exact absurd (HEQ.out.1 h) heq
     | false=>rfl)
    have HNE:=Zh heq;clear heq;by_cases hgr:0 < vv
    .have hdv:decide (0 < vv)=true:=by simpa using hgr
     have HR:=Zh (HB0.out.symm.trans (argG_t HAK.out (.inr (HVV.out.1.1 hgr))));clear hgr;go_wp2_with fail;refine wp_region_held_drew (S:=(fun w'=>Ext wr w'∧w'.cell? ⟨Y.g,5,none⟩=some (.slice (some ⟨Y.qa,0,none⟩) Y.m Y.qc)∧w'.cell? ⟨Y.g,6,none⟩=some (.slice (some ⟨Y.wb,0,none⟩) Y.k Y.wc)∧w'.cell? ⟨Y.qa,j,none⟩=some (.slice (some ⟨b,o,none⟩) us.length cA)∧w'.cell? ⟨b,o+q,none⟩=some (.int .i64 (P1:Int))∧w'.cell? ⟨Y.wb,i,none⟩=some (.slice (some ⟨Y.row i,0,none⟩) Y.m Y.m)∧w'.cell? ⟨Y.row i,P1,none⟩=some (.int .i64 vv))) Zk ?_ (fun hH=>?_)
     .exact ⟨(Ext.refl wr).drew,r5,r6,ra,hcx,ry,rv⟩
     refine s6Z0 0 (.pointer (some ⟨Y.g,0,none⟩)) 20 1 (.int .i64 (i:Int)) 21 2 (.pointer (some ⟨Y.g,0,none⟩)) 22 3 (.pointer (some ⟨Y.g,0,none⟩)) 23 4 (.pointer (some ⟨Y.g,5,none⟩)) 24 5 (.slice (some ⟨Y.qa,0,none⟩) Y.m Y.qc) 25 hH ?_;refine s6Z0 6 (.int .i64 (j:Int)) 26 7 (.pointer (some ⟨Y.qa,j,none⟩)) 27 8 (.slice (some ⟨b,o,none⟩) us.length cA) 28 9 (.int .i64 (q:Int)) 29 10 (.pointer (some ⟨b,o+q,none⟩)) 30 11 (.int .i64 (P1:Int)) 31 hH ?_;refine Z4 12 fun K hK=>?_;go_wp2_with (go_at_call 105;(with_reducible refine ((c_l13Same HSE.out HP.out (HHr.out.ext hH.1) HI.out HPQ.out)).mono ?_);rintro e w5 ⟨rfl,hE9⟩)
     refine hK.out _ _ ⟨Ext.trans hH.1 hE9,Ext.keep hE9 hH.2.1,Ext.keep hE9 hH.2.2.1,Ext.keep hE9 hH.2.2.2.1,Ext.keep hE9 hH.2.2.2.2.1,Ext.keep hE9 hH.2.2.2.2.2.1,Ext.keep hE9 hH.2.2.2.2.2.2⟩ (fun hH9=>?_);clear hK hH;rename _=>hH;try simp only [Act.put,Zl]
     refine s6Z0 13 (.bool false) 33 14 (.pointer (some ⟨Y.g,0,none⟩)) 34 15 (.pointer (some ⟨Y.g,0,none⟩)) 35 16 (.pointer (some ⟨Y.g,6,none⟩)) 36 17 (.slice (some ⟨Y.wb,0,none⟩) Y.k Y.wc) 37 18 (.int .i64 (i:Int)) 38 hH ?_;refine s6Z0 19 (.pointer (some ⟨Y.wb,i,none⟩)) 39 20 (.slice (some ⟨Y.row i,0,none⟩) Y.m Y.m) 40 21 (.pointer (some ⟨Y.g,0,none⟩)) 41 22 (.pointer (some ⟨Y.g,0,none⟩)) 42 23 (.pointer (some ⟨Y.g,5,none⟩)) 43 24 (.slice (some ⟨Y.qa,0,none⟩) Y.m Y.qc) 44 hH ?_;refine s6Z0 25 (.int .i64 (j:Int)) 45 26 (.pointer (some ⟨Y.qa,j,none⟩)) 46 27 (.slice (some ⟨b,o,none⟩) us.length cA) 47 28 (.int .i64 (q:Int)) 48 29 (.pointer (some ⟨b,o+q,none⟩)) 49 30 (.int .i64 (P1:Int)) 50 hH ?_;refine s4Z0 31 (.pointer (some ⟨Y.row i,P1,none⟩)) 51 32 (.int .i64 vv) 52 33 (.bool true) 53 34 (.bool true) 54 hH ?_;refine wpAnyH_done Zk ?_ _;obtain ⟨hE5,_,_,_,_,_,_⟩:=hH;go_wp2;go_ret;exact ⟨ret_bool HR.out.symm,Ext.trans hE hE5⟩
    .have hdv:decide (0 < vv)=false:=by simpa using hgr
     have HN:=Zh (show ∀ (p:Nat) (a:Tm),p < q+1→us[p]?=some a→a≠.node y ss∧¬ 0 < W a (.node y ss) from fun p a' hp ha'=>by
      rcases Nat.lt_or_ge p q with h | h
      .exact hno.out p a' h ha'
      .obtain rfl:p=q:=by omega
       rw [HAK.out] at ha';cases ha';exact ⟨HNE.out,fun h=>hgr (HVV.out.1.2 h)⟩)
     clear hgr;go_wp2_with fail;refine wp_region_held_drew (S:=(fun w'=>Ext wr w'∧w'.cell? ⟨Y.g,5,none⟩=some (.slice (some ⟨Y.qa,0,none⟩) Y.m Y.qc)∧w'.cell? ⟨Y.g,6,none⟩=some (.slice (some ⟨Y.wb,0,none⟩) Y.k Y.wc)∧w'.cell? ⟨Y.qa,j,none⟩=some (.slice (some ⟨b,o,none⟩) us.length cA)∧w'.cell? ⟨b,o+q,none⟩=some (.int .i64 (P1:Int))∧w'.cell? ⟨Y.wb,i,none⟩=some (.slice (some ⟨Y.row i,0,none⟩) Y.m Y.m)∧w'.cell? ⟨Y.row i,P1,none⟩=some (.int .i64 vv))) Zk ?_ (fun hH=>?_)
     .exact ⟨(Ext.refl wr).drew,r5,r6,ra,hcx,ry,rv⟩
     refine s6Z0 0 (.pointer (some ⟨Y.g,0,none⟩)) 20 1 (.int .i64 (i:Int)) 21 2 (.pointer (some ⟨Y.g,0,none⟩)) 22 3 (.pointer (some ⟨Y.g,0,none⟩)) 23 4 (.pointer (some ⟨Y.g,5,none⟩)) 24 5 (.slice (some ⟨Y.qa,0,none⟩) Y.m Y.qc) 25 hH ?_;refine s6Z0 6 (.int .i64 (j:Int)) 26 7 (.pointer (some ⟨Y.qa,j,none⟩)) 27 8 (.slice (some ⟨b,o,none⟩) us.length cA) 28 9 (.int .i64 (q:Int)) 29 10 (.pointer (some ⟨b,o+q,none⟩)) 30 11 (.int .i64 (P1:Int)) 31 hH ?_;refine Z4 12 fun K hK=>?_;go_wp2_with (go_at_call 105;(with_reducible refine ((c_l13Same HSE.out HP.out (HHr.out.ext hH.1) HI.out HPQ.out)).mono ?_);rintro e w5 ⟨rfl,hE9⟩)
     refine hK.out _ _ ⟨Ext.trans hH.1 hE9,Ext.keep hE9 hH.2.1,Ext.keep hE9 hH.2.2.1,Ext.keep hE9 hH.2.2.2.1,Ext.keep hE9 hH.2.2.2.2.1,Ext.keep hE9 hH.2.2.2.2.2.1,Ext.keep hE9 hH.2.2.2.2.2.2⟩ (fun hH9=>?_);clear hK hH;rename _=>hH;try simp only [Act.put,Zl]
     refine s6Z0 13 (.bool false) 33 14 (.pointer (some ⟨Y.g,0,none⟩)) 34 15 (.pointer (some ⟨Y.g,0,none⟩)) 35 16 (.pointer (some ⟨Y.g,6,none⟩)) 36 17 (.slice (some ⟨Y.wb,0,none⟩) Y.k Y.wc) 37 18 (.int .i64 (i:Int)) 38 hH ?_;refine s6Z0 19 (.pointer (some ⟨Y.wb,i,none⟩)) 39 20 (.slice (some ⟨Y.row i,0,none⟩) Y.m Y.m) 40 21 (.pointer (some ⟨Y.g,0,none⟩)) 41 22 (.pointer (some ⟨Y.g,0,none⟩)) 42 23 (.pointer (some ⟨Y.g,5,none⟩)) 43 24 (.slice (some ⟨Y.qa,0,none⟩) Y.m Y.qc) 44 hH ?_;refine s6Z0 25 (.int .i64 (j:Int)) 45 26 (.pointer (some ⟨Y.qa,j,none⟩)) 46 27 (.slice (some ⟨b,o,none⟩) us.length cA) 47 28 (.int .i64 (q:Int)) 48 29 (.pointer (some ⟨b,o+q,none⟩)) 49 30 (.int .i64 (P1:Int)) 50 hH ?_;refine s4Z0 31 (.pointer (some ⟨Y.row i,P1,none⟩)) 51 32 (.int .i64 vv) 52 33 (.bool false) 53 34 (.bool false) 54 hH ?_;refine wpAnyH_done Zk ?_ _;obtain ⟨hE5,_,_,_,_,_,_⟩:=hH;go_wp2;go_roundw
     case rel=>exact ⟨q+1,by go_num,Zo,HN,Ext.trans hE hE5⟩
     case measure=>exact mq27
  .have HR:=Zh (HB0.out.symm.trans (argG_f (by rw [show us.length=q by omega];exact hno.out)));go_wp2;go_ret;exact ⟨ret_bool HR.out.symm,hE⟩
theorem c_l13Over {Y:SC} {i j:Nat} {x y:Int} {us ss:List Tm} {V:Nat→Nat→Int} {W:Tm→Tm→Nat} {w:World} {b0:Bool} (hb0:overG W (.node x us) ss=b0) (hP:Y.P) (h:Y.H w V) (hA:Y.At i j y ss x us) (hV:∀ k b,ss[k]?=some b→Told (V (pl i ss k) j) (W (.node x us) b)) :
 Calls Tryz.prog 79 #[.pointer (some ⟨Y.g,0,none⟩),.int .i64 (i:Int),.int .i64 (j:Int)] w fun e w'=>e=.returned (.bool b0)∧Ext w w':=by
 have hP':=hP;have hik:i < Y.k:=x1q27;have hjm:j < Y.m:=x0q27;have hi0:(0:Int)≤(i:Int):=by omega
 have hj0:(0:Int)≤(j:Int):=by omega
 have hii:(i:Int) < (Y.k:Int):=by omega
 have hjj:(j:Int) < (Y.m:Int):=by omega
 have c4:=h.c4;have c6:=h.c6;have wy:=h.wy i hik;have HH:=Zh h;have HP:=Zh hP;have HA:=Zh hA;have HV:=Zh hV;have HB0:=Zh hb0;obtain ⟨A,cA,hca,hra⟩:=h.args_s hA;have HRA:=Zh hra;have hul:=hra.le;clear h hP hP' hA hV hb0 hra wy;go_enter Tryz.func79,Tryz.ntmps79;go_wp2_with fail;go_loopw [7] (fun iv wr=>∃ q:Nat,iv=.int .i64 q∧q≤ss.length∧Hid (∀ (p:Nat) (b:Tm),p < q→ss[p]?=some b→0 < W (.node x us) b)∧Ext w wr) (fun iv _=>ss.length - (intOf iv).toNat)
 case atStart=>exact ⟨0,rfl,Nat.zero_le _,Zh (fun p a hp=>Zo),Ext.refl _⟩
 case round=>
  obtain ⟨q,rfl,hq,hall,hE⟩:=hrel;have HHr:=Zh (HH.out.ext hE);have r4:=Ext.keep hE c4;have r6:=Ext.keep hE c6;have ra:=Ext.keep hE hca;by_cases hlt:q < ss.length
  .obtain ⟨b0',hb⟩:∃ b,ss[q]?=some b:=⟨ss[q],List.getElem?_eq_getElem hlt⟩;obtain ⟨hpq,_⟩:=HA.out.ps HP.out hb;obtain ⟨b,o,rfl,hcx⟩:=RI.starts_at (RI.ext HRA.out hE) hlt;have hv:=HV.out q b0' hb;obtain ⟨P1,hP1⟩:∃ P1,P1=pl i ss q:=⟨_,rfl⟩;rw [← hP1] at hcx hpq hv;have hpm:P1 < Y.k:=by rw [← HH.out.s.len];exact hpq
   obtain ⟨vv,hvv⟩:∃ vv,vv=V P1 j:=⟨_,rfl⟩;rw [← hvv] at hv;have rv:wr.cell? ⟨Y.row P1,j,none⟩=some (.int .i64 vv):=by rw [hvv];exact HHr.out.v P1 j hpm hjm
   have ry:=Ext.keep hE (HH.out.wy P1 hpm);have hq1:(q:Int) < (ss.length:Int):=by omega
   have hq0:(0:Int)≤(q:Int):=by omega
   have hp1:(P1:Int) < (Y.k:Int):=by omega
   have hp0:(0:Int)≤(P1:Int):=by omega
   have HVV:=Zh hv;have HBK:=Zh hb;clear hb hpq hv hP1 hvv;by_cases hz:vv=0
   .have hdv:(vv == 0)=true:=by simpa using hz
    have HR:=Zh (HB0.out.symm.trans (overG_f HBK.out (HVV.out.2.1 hz)));clear hz;go_wp2_with fail;go_quiet (fail)
    go_wp2;go_ret;exact ⟨ret_bool HR.out.symm,Ext.trans hE (Ext.drewN (Ext.refl wr) nq)⟩
   .have hdv:(vv == 0)=false:=by simpa using hz
    have HN:=Zh (show ∀ (p:Nat) (b:Tm),p < q+1→ss[p]?=some b→0 < W (.node x us) b from fun p b' hp hb'=>by
     rcases Nat.lt_or_ge p q with h | h
     .exact hall.out p b' h hb'
     .obtain rfl:p=q:=by omega
      rw [HBK.out] at hb';cases hb';exact Classical.byContradiction fun h=>hz (HVV.out.2.2 h))
    clear hz;go_wp2_with fail;go_quiet (fail)
    go_wp2;go_roundw
    case rel=>exact ⟨q+1,by go_num,Zo,HN,Ext.trans hE (Ext.drewN (Ext.refl wr) nq)⟩
    case measure=>exact mq27
  .have HR:=Zh (HB0.out.symm.trans (overG_t (by rw [show ss.length=q by omega];exact hall.out)));go_wp2;go_ret;exact ⟨ret_bool HR.out.symm,hE⟩
theorem c_l13First {Y:SC} {i j:Nat} {x y:Int} {us ss:List Tm} {V:Nat→Nat→Int} {W:Tm→Tm→Nat} {w:World} {b0:Bool} (hb0:lexG W us ss=b0) (hP:Y.P) (h:Y.H w V) (hA:Y.At i j y ss x us) (hl:us.length=ss.length) (hV:∀ k a b,us[k]?=some a→ss[k]?=some b→Told (V (pl i ss k) (pl j us k)) (W a b)) :
 Calls Tryz.prog 104 #[.pointer (some ⟨Y.g,0,none⟩),.int .i64 (i:Int),.int .i64 (j:Int)] w fun e w'=>e=.returned (.bool b0)∧Ext w w':=by
 have hP':=hP;have hik:i < Y.k:=x1q27;have hjm:j < Y.m:=x0q27;have hi0:(0:Int)≤(i:Int):=by omega
 have hj0:(0:Int)≤(j:Int):=by omega
 have hii:(i:Int) < (Y.k:Int):=by omega
 have hjj:(j:Int) < (Y.m:Int):=by omega
 have c4:=h.c4;have c5:=h.c5;have c6:=h.c6;have wy:=h.wy i hik;have HH:=Zh h;have HP:=Zh hP;have HA:=Zh hA;have HV:=Zh hV;have HB0:=Zh hb0;have HL:=Zh hl;obtain ⟨A,cA,hca,hra⟩:=h.args_s hA;have HRA:=Zh hra;have hul:=hra.le;obtain ⟨B,cB,hcb,hrb⟩:=h.args_t hA;have HRB:=Zh hrb;clear h hP hP' hA hV hb0 hra hrb wy hl;go_enter Tryz.func104,Tryz.ntmps104;go_wp2_with fail;go_loopw [7] (fun iv wr=>∃ q:Nat,iv=.int .i64 q∧q≤ss.length∧Hid (lexG W us ss=lexG W (us.drop q) (ss.drop q))∧Ext w wr) (fun iv _=>ss.length - (intOf iv).toNat)
 case atStart=>exact ⟨0,rfl,Nat.zero_le _,Zh (by rw [List.drop_zero,List.drop_zero]),Ext.refl _⟩
 case round=>
  obtain ⟨q,rfl,hq,hlx,hE⟩:=hrel;have HHr:=Zh (HH.out.ext hE);have r4:=Ext.keep hE c4;have r5:=Ext.keep hE c5;have r6:=Ext.keep hE c6;have ra:=Ext.keep hE hca;have rb:=Ext.keep hE hcb;by_cases hlt:q < ss.length
  .have hlt2:q < us.length:=by have:=HL.out;omega
   obtain ⟨a,ha⟩:∃ a,us[q]?=some a:=⟨us[q],List.getElem?_eq_getElem hlt2⟩;obtain ⟨b,hb⟩:∃ b,ss[q]?=some b:=⟨ss[q],List.getElem?_eq_getElem hlt⟩;obtain ⟨hpq1,hs1⟩:=HA.out.ps HP.out hb;obtain ⟨hpq2,hs2⟩:=HA.out.pt HP.out ha;obtain ⟨b1,o1,rfl,hc1⟩:=RI.starts_at (RI.ext HRA.out hE) hlt;obtain ⟨b2,o2,rfl,hc2⟩:=RI.starts_at (RI.ext HRB.out hE) hlt2;have hv:=HV.out q a b ha hb;obtain ⟨P1,hP1⟩:∃ P1,P1=pl i ss q:=⟨_,rfl⟩;obtain ⟨P2,hP2⟩:∃ P2,P2=pl j us q:=⟨_,rfl⟩;rw [← hP1] at hc1 hpq1 hs1 hv;rw [← hP2] at hc2 hpq2 hs2 hv;have hpm1:P1 < Y.k:=by rw [← HH.out.s.len];exact hpq1
   have hpm2:P2 < Y.m:=by rw [← HH.out.t.len];exact hpq2
   obtain ⟨vv,hvv⟩:∃ vv,vv=V P1 P2:=⟨_,rfl⟩;rw [← hvv] at hv;have hq1:(q:Int) < (ss.length:Int):=by omega
   have hq2:(q:Int) < (us.length:Int):=by omega
   have hq0:(0:Int)≤(q:Int):=by omega
   have HPQ1:=Zh hpq1;have HPQ2:=Zh hpq2;have HVV:=Zh hv;have HLD:=Zh (lexG_drop (W:=W) ha hb);have HEQ:=Zh (show ((subT Y.ar Y.s P1).flat == (subT Y.ar Y.t P2).flat)=true↔a=b by
    rw [hs1,hs2,beq_iff_eq];have e:=flat_eq (OkL_iff.1 (Ok_node.1 (HA.out.ok HP.out).1).2 b (List.mem_of_getElem? hb)) (OkL_iff.1 (Ok_node.1 (HA.out.ok HP.out).2).2 a (List.mem_of_getElem? ha));rw [e];exact eq_comm)
   have HVE:=Zh hvv;clear ha hb hpq1 hpq2 hs1 hs2 hv hP1 hP2 hvv;by_cases heq:a=b
   .have HSE:=Zh (HEQ.out.2 heq);have HN:=Zh (hlx.out.trans (HLD.out.1 heq));clear heq;go_wp2_with fail;refine wp_region_held_drew (S:=(fun w'=>Ext wr w'∧w'.cell? ⟨Y.g,4,none⟩=some (.slice (some ⟨Y.pa,0,none⟩) Y.k Y.pc)∧w'.cell? ⟨Y.g,5,none⟩=some (.slice (some ⟨Y.qa,0,none⟩) Y.m Y.qc)∧w'.cell? ⟨Y.pa,i,none⟩=some (.slice (some ⟨b1,o1,none⟩) ss.length cA)∧w'.cell? ⟨b1,o1+q,none⟩=some (.int .i64 (P1:Int))∧w'.cell? ⟨Y.qa,j,none⟩=some (.slice (some ⟨b2,o2,none⟩) us.length cB)∧w'.cell? ⟨b2,o2+q,none⟩=some (.int .i64 (P2:Int)))) Zk ?_ (fun hH=>?_)
    .exact ⟨(Ext.refl wr).drew,r4,r5,ra,hc1,rb,hc2⟩
    refine s6Z0 0 (.pointer (some ⟨Y.g,0,none⟩)) 20 1 (.pointer (some ⟨Y.g,0,none⟩)) 21 2 (.pointer (some ⟨Y.g,0,none⟩)) 22 3 (.pointer (some ⟨Y.g,4,none⟩)) 23 4 (.slice (some ⟨Y.pa,0,none⟩) Y.k Y.pc) 24 5 (.int .i64 (i:Int)) 25 hH ?_;refine s6Z0 6 (.pointer (some ⟨Y.pa,i,none⟩)) 26 7 (.slice (some ⟨b1,o1,none⟩) ss.length cA) 27 8 (.int .i64 (q:Int)) 28 9 (.pointer (some ⟨b1,o1+q,none⟩)) 29 10 (.int .i64 (P1:Int)) 30 11 (.pointer (some ⟨Y.g,0,none⟩)) 31 hH ?_;refine s6Z0 12 (.pointer (some ⟨Y.g,0,none⟩)) 32 13 (.pointer (some ⟨Y.g,5,none⟩)) 33 14 (.slice (some ⟨Y.qa,0,none⟩) Y.m Y.qc) 34 15 (.int .i64 (j:Int)) 35 16 (.pointer (some ⟨Y.qa,j,none⟩)) 36 17 (.slice (some ⟨b2,o2,none⟩) us.length cB) 37 hH ?_;refine s2Z0 18 (.int .i64 (q:Int)) 38 19 (.pointer (some ⟨b2,o2+q,none⟩)) 39 hH ?_;refine s1Z0 20 (.int .i64 (P2:Int)) 40 hH ?_;refine Z4 21 fun K hK=>?_;go_wp2_with (go_at_call 105;(with_reducible refine ((c_l13Same HSE.out HP.out (HHr.out.ext hH.1) HPQ1.out HPQ2.out)).mono ?_);rintro e w5 ⟨rfl,hE9⟩)
    refine hK.out _ _ ⟨Ext.trans hH.1 hE9,Ext.keep hE9 hH.2.1,Ext.keep hE9 hH.2.2.1,Ext.keep hE9 hH.2.2.2.1,Ext.keep hE9 hH.2.2.2.2.1,Ext.keep hE9 hH.2.2.2.2.2.1,Ext.keep hE9 hH.2.2.2.2.2.2⟩ (fun hH9=>?_);clear hK hH;rename _=>hH;try simp only [Act.put,Zl]
    refine s1Z0 22 (.bool false) 42 hH ?_;refine wpAnyH_done Zk ?_ _;obtain ⟨hE5,_,_,_,_,_,_⟩:=hH;go_wp2;go_roundw
    case rel=>exact ⟨q+1,by go_num,Zo,HN,Ext.trans hE hE5⟩
    case measure=>exact mq27
   .have HSE:=Zh (show ((subT Y.ar Y.s P1).flat == (subT Y.ar Y.t P2).flat)=false by
     cases h:((subT Y.ar Y.s P1).flat == (subT Y.ar Y.t P2).flat) with
     | true=>exact absurd (HEQ.out.1 h) heq
     | false=>rfl)
    have HN:=Zh (HB0.out.symm.trans (hlx.out.trans (HLD.out.2 heq)));have HDV:=Zh (show decide (0 < vv)=b0 by
     rw [HN.out];by_cases h:0 < vv
     .rw [decide_eq_true h,decide_eq_true (HVV.out.1.1 h)]
     .rw [decide_eq_false h,decide_eq_false (fun h2=>h (HVV.out.1.2 h2))])
    clear heq;go_wp2_with fail;refine wp_region_held_drew (S:=(fun w'=>Ext wr w'∧w'.cell? ⟨Y.g,4,none⟩=some (.slice (some ⟨Y.pa,0,none⟩) Y.k Y.pc)∧w'.cell? ⟨Y.g,5,none⟩=some (.slice (some ⟨Y.qa,0,none⟩) Y.m Y.qc)∧w'.cell? ⟨Y.pa,i,none⟩=some (.slice (some ⟨b1,o1,none⟩) ss.length cA)∧w'.cell? ⟨b1,o1+q,none⟩=some (.int .i64 (P1:Int))∧w'.cell? ⟨Y.qa,j,none⟩=some (.slice (some ⟨b2,o2,none⟩) us.length cB)∧w'.cell? ⟨b2,o2+q,none⟩=some (.int .i64 (P2:Int)))) Zk ?_ (fun hH=>?_)
    .exact ⟨(Ext.refl wr).drew,r4,r5,ra,hc1,rb,hc2⟩
    refine s6Z0 0 (.pointer (some ⟨Y.g,0,none⟩)) 20 1 (.pointer (some ⟨Y.g,0,none⟩)) 21 2 (.pointer (some ⟨Y.g,0,none⟩)) 22 3 (.pointer (some ⟨Y.g,4,none⟩)) 23 4 (.slice (some ⟨Y.pa,0,none⟩) Y.k Y.pc) 24 5 (.int .i64 (i:Int)) 25 hH ?_;refine s6Z0 6 (.pointer (some ⟨Y.pa,i,none⟩)) 26 7 (.slice (some ⟨b1,o1,none⟩) ss.length cA) 27 8 (.int .i64 (q:Int)) 28 9 (.pointer (some ⟨b1,o1+q,none⟩)) 29 10 (.int .i64 (P1:Int)) 30 11 (.pointer (some ⟨Y.g,0,none⟩)) 31 hH ?_;refine s6Z0 12 (.pointer (some ⟨Y.g,0,none⟩)) 32 13 (.pointer (some ⟨Y.g,5,none⟩)) 33 14 (.slice (some ⟨Y.qa,0,none⟩) Y.m Y.qc) 34 15 (.int .i64 (j:Int)) 35 16 (.pointer (some ⟨Y.qa,j,none⟩)) 36 17 (.slice (some ⟨b2,o2,none⟩) us.length cB) 37 hH ?_;refine s2Z0 18 (.int .i64 (q:Int)) 38 19 (.pointer (some ⟨b2,o2+q,none⟩)) 39 hH ?_;refine s1Z0 20 (.int .i64 (P2:Int)) 40 hH ?_;refine Z4 21 fun K hK=>?_;go_wp2_with (go_at_call 105;(with_reducible refine ((c_l13Same HSE.out HP.out (HHr.out.ext hH.1) HPQ1.out HPQ2.out)).mono ?_);rintro e w5 ⟨rfl,hE9⟩)
    refine hK.out _ _ ⟨Ext.trans hH.1 hE9,Ext.keep hE9 hH.2.1,Ext.keep hE9 hH.2.2.1,Ext.keep hE9 hH.2.2.2.1,Ext.keep hE9 hH.2.2.2.2.1,Ext.keep hE9 hH.2.2.2.2.2.1,Ext.keep hE9 hH.2.2.2.2.2.2⟩ (fun hH9=>?_);clear hK hH;rename _=>hH;try simp only [Act.put,Zl]
    refine s1Z0 22 (.bool true) 42 hH ?_;refine wpAnyH_done Zk ?_ _;obtain ⟨hE5,r4b,r5b,rab,hc1b,rbb,hc2b⟩:=hH;have hE5w:=Ext.trans hE hE5;have HH5:=Zh (HH.out.ext hE5w);have r6b:=Ext.keep hE5w c6;have rv:w5.cell? ⟨Y.row P1,P2,none⟩=some (.int .i64 vv):=by rw [HVE.out];exact HH5.out.v P1 P2 hpm1 hpm2
    have ry:=Ext.keep hE5w (HH.out.wy P1 hpm1);have hp1:(P1:Int) < (Y.k:Int):=by omega
    have hp0:(0:Int)≤(P1:Int):=by omega
    have hp2:(P2:Int) < (Y.m:Int):=by omega
    have hp20:(0:Int)≤(P2:Int):=by omega
    clear r4 r5 r6 ra rb hc1 hc2;go_wp2_with fail;go_quiet (fail)
    go_wp2;go_ret;exact ⟨ret_bool HDV.out,Ext.trans hE5w (Ext.drewN (Ext.refl w5) nq)⟩
  .have HR:=Zh (HB0.out.symm.trans (hlx.out.trans (by rw [List.drop_of_length_le (show us.length≤q by have:=HL.out;omega)];try simp [lexG])));go_wp2;go_ret;exact ⟨ret_bool HR.out.symm,hE⟩

