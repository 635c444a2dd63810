/- -/
import Derived.Test.YtiblbnkpjmmjaaaGreatQ37
set_option maxRecDepth 100000
set_option maxHeartbeats 16000000
set_option linter.all false
namespace Go.Proofs.YtiblbnkpjmmjaaaGreat
theorem x0q38 {p:Prop} (h:p:=by rw [hwo];simp [go_sem]):p:=h
open Go.RowKit
theorem c_whyN {ar:List Int} {W:Wt} (hs:SigP ar) (hW:WtP ar W):∀ (N:Nat) (u v:Tm),u.flat.length≤N→u.Ok ar→v.Ok ar→WhyI ar W u v
 | 0,u,v,h,_,_=>by have:=flat_pos u;omega
 | N+1,.node x us,.node y ts,h,hu,hv=>c_why hs hW hu hv fun a ha b hb=>
  c_whyN hs hW N a b (by have:=mem_flatL_len ha;rw [flat_node,List.length_cons] at h;omega) (OkL_iff.1 (Ok_node.1 hu).2 a ha) (OkL_iff.1 (Ok_node.1 hv).2 b hb)
theorem c_why_ok {v0 v1 v2 v3:Value} {ar:List Int} {W:Wt} {s t:List Int} {w:World} (hs:SigP ar) (hW:WtP ar W) (ht1:TermP ar s) (ht2:TermP ar t) (h0:RdWt w v0 W) (h1:RdSig w v1 ar) (h2:RdIc w v2 s) (h3:RdIc w v3 t) :
 Calls Tryz.prog 49 #[v0,v1,v2,v3] w fun e w'=>e=.returned (.int .i64 (kbo ar W (tmOf ar s) (tmOf ar t)))∧Ext w w':=by
 obtain ⟨a1,a2⟩:=tmOf_ok ht1;obtain ⟨b1,b2⟩:=tmOf_ok ht2;exact c_whyN hs hW _ (tmOf ar s) (tmOf ar t) (Nat.le_refl _) a1 b1 _ _ _ _ _ h0 h1 (by rw [a2];exact h2) (by rw [b2];exact h3)
theorem wraps_var {ar:List Int} {W:Wt} {x y:Int} {ts:List Tm} (hv:(Tm.node y ts).Ok ar) (hy:y < 0):wraps ar W x (Tm.node y ts).flat=false:=by
 refine wraps_f fun h=>?_;have h1:=(Ok_node.1 hv).1;rw [arI_neg hy] at h1;injection h1 with h1
 have h2:ts=[]:=List.eq_nil_of_length_eq_zero h1.symm;have:=h.2.1;rw [flat_node,h2,flatL_nil] at this;simp at this
abbrev WhyS (ar:List Int) (W:Wt) (u v:Tm):Prop:=∀ (vW vS vs vt:Value) (w:World),RdWt w vW W→RdSig w vS ar→RdIc w vs u.flat→RdIc w vt v.flat →
 Calls Tryz.prog 59 #[vS,vW,vs,vt] w fun e w'=>e=.returned (.int .i64 (kbo ar W u v))∧Ext w w'
theorem mq38 {p:Prop} (h:p:=by simp only [intOf];omega):p:=h
theorem c_l14Why {ar:List Int} {W:Wt} (hs:SigP ar) (hW:WtP ar W) {x y:Int} {us ts:List Tm} (hu:(Tm.node x us).Ok ar) (hv:(Tm.node y ts).Ok ar) (ih:∀ a∈us,∀ b∈ts,WhyS ar W a b):WhyS ar W (Tm.node x us) (Tm.node y ts):=by
 intro v0 v1 v2 v3 w h0 h1 h2 h3;obtain ⟨SA,n,c,R,q,d,rfl,ha,hr⟩:=h0;obtain ⟨A,k,l,rfl,hb⟩:=h1;obtain ⟨D,m,f,rfl,hmf,hd⟩:=h2;obtain ⟨D',m',f',rfl,hmf',hd'⟩:=h3;have hnk:n=k:=by rw [← ha.len,← hb.len];exact hW.2.1
 have hqk:q=k:=by rw [← hr.len,← hb.len];exact hW.1.2.1
 have hkl:=hb.len;have hm1:0 < m:=by have:=hd.len;have:=flat_pos (Tm.node x us);omega
 have hm1':0 < m':=by have:=hd'.len;have:=flat_pos (Tm.node y ts);omega
 have hxk:=arI_lt (Ok_node.1 hu).1;have hyk:=arI_lt (Ok_node.1 hv).1;rw [hkl] at hxk hyk;have hlt:∀ z∈(Tm.node y ts).flat,z < ar.length:=flat_lt _ hv;have HSL:=Zh (hW.lt (flat_lt _ hu));have HTL:=Zh (hW.lt (flat_lt _ hv));have HLT:=Zh hlt;have HLS:=Zh hW.2.1;have HWB:=Zh hW.wb;have HWV:=Zh (fun hy:y < 0=>wraps_var (W:=W) (x:=x) hv hy);obtain ⟨bx,ox,zx,rfl,hzx,hcx⟩:=RI.at_ hd hm1;obtain ⟨by',oy,zy,rfl,hzy,hcy⟩:=RI.at_ hd' hm1';rw [flat_node] at hzx hzy;injection hzx with hzx;subst hzx
 injection hzy with hzy;subst hzy
 rw [Nat.add_zero] at hcx hcy;obtain ⟨s,hsdef⟩:∃ s,s=(Tm.node x us).flat:=⟨_,rfl⟩;obtain ⟨t,htdef⟩:∃ t,t=(Tm.node y ts).flat:=⟨_,rfl⟩;have hsl:s.length=m:=by rw [hsdef];exact hd.len
 have htl:t.length=m':=by rw [htdef];exact hd'.len
 have HK:=Zh (kbo_node ar W x y us ts);rw [← hsdef,← htdef] at HK;rw [← hsdef] at hd HSL;rw [← htdef] at hd' HTL HLT HWV;have HW:=Zh (RdWt.mk (c:=c) (d:=d) ha hr);have HA:=Zh ha;have HR:=Zh hr;have HB:=Zh hb;have HD:=Zh hd;have HD':=Zh hd';have HMF:=Zh hmf;have HMF':=Zh hmf';have HS:=Zh hs;have HU:=Zh hu;have HV:=Zh hv;have HI:=Zh ih;have HTT:=Zh htdef;have HST:=Zh hsdef;have HTLEN:=Zh htl;subst hnk;have hqk':=hqk.symm;subst hqk';clear hqk;clear ha hr hb hd hd' hmf hmf' hs hu hv ih hkl hlt hW htdef hsdef hsl htl;go_enter Tryz.func59,Tryz.ntmps59;go_wp2_with fail;obtain ⟨wo,hwo⟩:∃ wo,wo=(w.alloc (.cells #[.slice A n l] 29)).alloc (.cells #[.int .i64 W.var,.slice SA n c,.slice R n d] 35):=⟨_,rfl⟩;have hw0:wo.cell? ⟨w.heap.size+1,0,none⟩=some (.int .i64 W.var):=x0q38;have hw1:wo.cell? ⟨w.heap.size+1,1,none⟩=some (.slice SA n c):=x0q38;have hw2:wo.cell? ⟨w.heap.size+1,2,none⟩=some (.slice R n d):=x0q38;have hw3:wo.cell? ⟨w.heap.size,0,none⟩=some (.slice A n l):=x0q38;have hEo:Ext w wo:=by rw [hwo];exact extX
 rw [← hwo];clear hwo
 (with_reducible refine (c_l14Weight (W:=W) (t:=s) (RdWt.ext HW.out hEo) (RdI.mk (RI.ext HD.out hEo)) HWB.out HSL.out).mono ?_);rintro e w1 ⟨rfl,hE1⟩;have hx0:=Ext.keep hE1 hw0;have hx1:=Ext.keep hE1 hw1;have hx2:=Ext.keep hE1 hw2;have hx3:=Ext.keep hE1 hw3;have hEw1:Ext w w1:=Ext.trans hEo hE1;go_wp2_with fail
 (with_reducible refine (c_l14Weight (W:=W) (t:=t) (RdWt.ext HW.out hEw1) (RdI.mk (RI.ext HD'.out hEw1)) HWB.out HTL.out).mono ?_);rintro e w2 ⟨rfl,hE2⟩;have hEw2:Ext w w2:=Ext.trans hEw1 hE2;have hE22:Ext wo w2:=Ext.trans hE1 hE2;clear hx0 hx1 hx2 hx3;go_wp2_with fail
 (with_reducible refine (c_l14Often (s:=s) (t:=t) (RdI.mk (RI.ext HD.out hEw2)) (RdI.mk (RI.ext HD'.out hEw2))).mono ?_);rintro e w3 ⟨rfl,hE3'⟩;have hE3:Ext wo w3:=Ext.trans hE22 hE3';have hy0:w3.cell? ⟨w.heap.size+1,0,none⟩=some (.int .i64 W.var):=Ext.keep hE3 hw0;have hy1:w3.cell? ⟨w.heap.size+1,1,none⟩=some (.slice SA n c):=Ext.keep hE3 hw1;have hy2:w3.cell? ⟨w.heap.size+1,2,none⟩=some (.slice R n d):=Ext.keep hE3 hw2;have hy3:w3.cell? ⟨w.heap.size,0,none⟩=some (.slice A n l):=Ext.keep hE3 hw3;have hEw3:Ext w w3:=Ext.trans hEo hE3;have hcx3:w3.cell? ⟨bx,ox,none⟩=some (.int .i64 x):=Ext.keep hEw3 hcx;have hcy3:w3.cell? ⟨by',oy,none⟩=some (.int .i64 y):=Ext.keep hEw3 hcy;clear hw0 hw1 hw2 hw3 hcx hcy hE3 hE3' hE22 hE2 hE1 hEw1 hEw2;cases hof:oft s t with
 | false=>
  have HN:=Zh (HK.out.trans (if_pos hof));go_wp2;go_ret;exact ⟨ret_int HN.out.symm,extX⟩
 | true=>
 have HK2:=Zh (HK.out.trans (if_neg (by rw [hof];decide)));clear HK;by_cases hba:wtOf W t < wtOf W s
 .have HN:=Zh (HK2.out.trans ((if_neg Zo).trans (if_pos (.inl hba))));go_wp2;go_ret;exact ⟨ret_int HN.out.symm,extX⟩
 by_cases hab:wtOf W s < wtOf W t
 .have HN:=Zh (HK2.out.trans (if_pos hab));go_wp2;go_ret;exact ⟨ret_int HN.out.symm,extX⟩
 have HK3:=Zh (HK2.out.trans (if_neg hab));clear HK2;by_cases hx:x < 0
 .have HN:Hid (kbo ar W (Tm.node x us) (Tm.node y ts)=if wraps ar W x t=true then 2 else 0):=by
   refine Zh ?_;by_cases hy:y < 0
   .rw [HK3.out,if_pos (.inr hy),HWV.out hy];rfl
   .rw [HK3.out,if_neg (fun h=>h.elim hba hy),if_pos hx]
  clear HK3 HWV;go_wp2_with fail;go_still_tail 6,Zk
  change wpList _ _ _ _ _ w3.drew
  have hE4:Ext w w3.drew:=hEw3.drew;cases hwr:wraps ar W x t with
  | true=>
   have HN2:=Zh (HN.out.trans (if_pos hwr));clear HN;go_wp2_with (go_at_call 83;(with_reducible refine (c_l14Wrapped (ar:=ar) (W:=W) (v:=x) (t:=t) (RdSig.mk (RI.ext HB.out hE4)) (RdWt.ext HW.out hE4) (RdI.mk (RI.ext HD'.out hE4)) (by rw [HTLEN.out];omega) HLT.out HLS.out).mono ?_);rintro e w5 ⟨rfl,hE5⟩)
   go_ret;exact ⟨ret_int HN2.out.symm,extX⟩
  | false=>
   have HN2:=Zh (HN.out.trans (if_neg (by rw [hwr];decide)));clear HN;go_wp2_with (go_at_call 83;(with_reducible refine (c_l14Wrapped (ar:=ar) (W:=W) (v:=x) (t:=t) (RdSig.mk (RI.ext HB.out hE4)) (RdWt.ext HW.out hE4) (RdI.mk (RI.ext HD'.out hE4)) (by rw [HTLEN.out];omega) HLT.out HLS.out).mono ?_);rintro e w5 ⟨rfl,hE5⟩)
   go_ret;exact ⟨ret_int HN2.out.symm,extX⟩
 by_cases hy:y < 0
 .have HN:=Zh (HK3.out.trans (if_pos (.inr hy)));clear HK3 HWV;go_wp2;go_ret;exact ⟨ret_int HN.out.symm,extX⟩
 have HK5:=Zh (HK3.out.trans ((if_neg (fun h=>h.elim hba hy)).trans (if_neg hx)));obtain ⟨x0,rfl⟩:=Int.eq_ofNat_of_zero_le (show 0≤x by omega);obtain ⟨y0,rfl⟩:=Int.eq_ofNat_of_zero_le (show 0≤y by omega);obtain ⟨b3,o3,rx,e3,hrx,hcrx⟩:=RI.at_ (RI.ext HR.out hEw3) (show x0 < n by omega);obtain ⟨b4,o4,ry,e4,hry,hcry⟩:=RI.at_ (RI.ext HR.out hEw3) (show y0 < n by omega);subst e3;cases e4;have e5:rk1 W (x0:Int)=rx:=rk1_at (by rw [Int.toNat_natCast];exact hrx);have e6:rk1 W (y0:Int)=ry:=rk1_at (by rw [Int.toNat_natCast];exact hry);have HK6:=HK5.out;rw [e5,e6] at HK6;have HK6:=Zh HK6;have HRX:=Zh hrx;have HRY:=Zh hry;clear HK3 HK5 e5 e6 hrx hry HWV;by_cases hxy:x0=y0
 .subst hxy;have hrr:rx=ry:=by have h1:=HRX.out;rw [HRY.out] at h1;injection h1 with h1;exact h1.symm
  have HK7:=Zh (HK6.out.trans (if_neg Zo));have hbe:((x0:Int) != (x0:Int))=false:=by simp
  clear HK6 HRX HRY hcrx hcry;go_wp2_with fail;go_quiet (fail)
  have hEq:Ext w3 (w3.drewN nq):=(Ext.refl w3).drewN _;obtain ⟨wq,hwq⟩:∃ wq,wq=w3.drewN nq:=⟨_,rfl⟩;rw [← hwq] at hEq ⊢;clear hwq;have hz0:=Ext.keep hEq hy0;have hz1:=Ext.keep hEq hy1;have hz2:=Ext.keep hEq hy2;have hz3:=Ext.keep hEq hy3;have hEwq:Ext w wq:=Ext.trans hEw3 hEq;clear hy0 hy1 hy2 hy3 hcx3 hcy3;go_wp2_with fail
  (with_reducible refine (c_l13Parts (RdSig.mk (RI.ext HB.out hEwq)) (RdIc.mk HMF.out (by rw [← HST.out];exact RI.ext HD.out hEwq)) HS.out HU.out).mono ?_);rintro e w4 ⟨A1,n1,c1,rfl,hn1,hr1,hE4⟩;have hp0:=Ext.keep hE4 hz0;have hp1:=Ext.keep hE4 hz1;have hp2:=Ext.keep hE4 hz2;have hp3:=Ext.keep hE4 hz3;have hEw4:Ext w w4:=Ext.trans hEwq hE4;clear hz0 hz1 hz2 hz3;have HP0:=Zh hr1;clear hr1;go_wp2_with fail
  (with_reducible refine (c_l13Parts (RdSig.mk (RI.ext HB.out hEw4)) (RdIc.mk HMF'.out (by rw [← HTT.out];exact RI.ext HD'.out hEw4)) HS.out HV.out).mono ?_);rintro e w5 ⟨A2,n2,c2,rfl,hn2,hr2,hE5⟩;have hs0:=Ext.keep hE5 hp0;have hs1:=Ext.keep hE5 hp1;have hs2:=Ext.keep hE5 hp2;have hs3:=Ext.keep hE5 hp3;have hEw5:Ext w w5:=Ext.trans hEw4 hE5;have HP:=Zh (RS.ext HP0.out hE5);have HQ:=Zh hr2;have HL:=Zh (ok_len HU.out HV.out);subst hn1 hn2;have hus:us.length≤4194304:=HP.out.1.2;clear hr2 hp0 hp1 hp2 hp3 HP0;go_wp2_with fail;go_loopw [13] (fun i wr=>∃ j:Nat,i=.int .i64 j∧j≤us.length∧Hid (SameTo us ts j)∧Ext w5 wr) (fun i _=>us.length - (intOf i).toNat)
  case atStart=>exact ⟨0,rfl,Nat.zero_le _,Zh (fun j hj=>Zo),Ext.refl _⟩
  case round=>
   obtain ⟨j,rfl,hj,hp,hE6⟩:=hrel;have hr0:=Ext.keep hE6 hs0;have hr1:=Ext.keep hE6 hs1;have hr2:=Ext.keep hE6 hs2;have hr3:=Ext.keep hE6 hs3;have hEwr:Ext w wr:=Ext.trans hEw5 hE6;by_cases hlt:j < us.length
   .obtain ⟨a,hak⟩:∃ a,us[j]?=some a:=⟨us[j],List.getElem?_eq_getElem hlt⟩;have hlt2:j < ts.length:=by rw [← HL.out];exact hlt
    obtain ⟨b,hbk⟩:∃ b,ts[j]?=some b:=⟨ts[j],List.getElem?_eq_getElem hlt2⟩;obtain ⟨b1,o1,A3,n3,c3,rfl,hc3,hcap3,hri3⟩:=RS.at_ (RS.ext HP.out hE6) hak;obtain ⟨b2,o2,A4,n4,c4,rfl,hc4,hcap4,hri4⟩:=RS.at_ (RS.ext HQ.out hE6) hbk;have HW2:=Zh (HI.out a (List.mem_of_getElem? hak) b (List.mem_of_getElem? hbk));have HAK:=Zh hak;have HBK:=Zh hbk;have HX:=Zh hri3;have HY:=Zh hri4;have HC3:=Zh hcap3;have HC4:=Zh hcap4;clear hak hbk hri3 hri4 hcap3 hcap4;have hj1:(j:Int) < (us.length:Int):=by omega
    have hj2:(j:Int) < (ts.length:Int):=by omega
    have hj0:(0:Int)≤(j:Int):=by omega
    go_wp2_with fail;go_still_tail 8,Zk
    change wpList _ _ _ _ _ wr.drew
    have hEd:Ext wr wr.drew:=(Ext.refl wr).drew;have hbbe:(a.flat == b.flat)=decide (a.flat=b.flat):=by rw [Bool.eq_iff_iff];simp
    by_cases heq:a.flat=b.flat
    .have hbe2:(a.flat == b.flat)=true:=by simpa using heq
     have HN:=Zh (hp.out.step HAK.out HBK.out heq);clear hbbe;go_wp2_with fail
     (with_reducible refine (c_SameTerm (xs:=a.flat) (ys:=b.flat) (RdI.mk (RI.ext HX.out hEd)) (RdI.mk (RI.ext HY.out hEd))).mono ?_);rintro e w6 ⟨rfl,hE7⟩;go_wp2;go_roundw
     case rel=>exact ⟨j+1,by go_num,Zo,HN,Ext.trans hE6 (Ext.trans hEd hE7)⟩
     case measure=>exact mq38
    .have hbe2:(a.flat == b.flat)=false:=by simpa using heq
     have HN:=Zh (kboL_at (ar:=ar) (W:=W) HL.out hp.out HAK.out HBK.out heq);clear hbbe;go_wp2_with fail
     (with_reducible refine (c_SameTerm (xs:=a.flat) (ys:=b.flat) (RdI.mk (RI.ext HX.out hEd)) (RdI.mk (RI.ext HY.out hEd))).mono ?_);rintro e w6 ⟨rfl,hE7⟩;have hEr6:Ext wr w6:=Ext.trans hEd hE7;have hv0:=Ext.keep hEr6 hr0;have hv1:=Ext.keep hEr6 hr1;have hv2:=Ext.keep hEr6 hr2;have hv3:=Ext.keep hEr6 hr3;have hv4:=Ext.keep hEr6 hc3;have hv5:=Ext.keep hEr6 hc4;have hE66:Ext w w6:=Ext.trans hEwr hEr6;clear hr0 hr1 hr2 hr3 hc3 hc4;go_wp2_with fail;go_still_tail 10,Zk
     change wpList _ _ _ _ _ w6.drew
     have hE6d:Ext w w6.drew:=hE66.drew;have hErd:Ext wr w6.drew:=hEr6.drew;by_cases hkl:0 < kbo ar W a b
     .have HN2:=Zh (HK7.out.trans (if_pos ⟨by trivial,by rw [HN.out];simpa using hkl⟩));go_wp2_with fail
      (with_reducible refine (HW2.out _ _ _ _ _ (RdWt.mk (RI.ext HA.out hE6d) (RI.ext HR.out hE6d)) (RdSig.mk (RI.ext HB.out hE6d)) (RdIc.mk HC3.out (RI.ext HX.out hErd)) (RdIc.mk HC4.out (RI.ext HY.out hErd))).mono ?_);rintro e w7 ⟨rfl,hE8⟩;go_wp2;go_ret;exact ⟨ret_int HN2.out.symm,Ext.trans hE6d hE8⟩
     .have HN2:=Zh (HK7.out.trans (if_neg (by rw [HN.out];rintro ⟨_,h⟩;exact hkl (by simpa using h))));go_wp2_with fail
      (with_reducible refine (HW2.out _ _ _ _ _ (RdWt.mk (RI.ext HA.out hE6d) (RI.ext HR.out hE6d)) (RdSig.mk (RI.ext HB.out hE6d)) (RdIc.mk HC3.out (RI.ext HX.out hErd)) (RdIc.mk HC4.out (RI.ext HY.out hErd))).mono ?_);rintro e w7 ⟨rfl,hE8⟩;go_wp2;go_ret;exact ⟨ret_int HN2.out.symm,Ext.trans hE6d hE8⟩
   .have hjn:j=us.length:=by omega
    have HN:=Zh (kboL_end (ar:=ar) (W:=W) HL.out (by rw [← hjn];exact hp.out));have HN2:=Zh (HK7.out.trans (if_neg (by rw [HN.out];rintro ⟨_,h⟩;cases h)));go_wp2;go_ret;exact ⟨ret_int HN2.out.symm,extX⟩
 .have hbe:((x0:Int) != (y0:Int))=true:=by simp;omega
  by_cases hrk:rx < ry
  .have HN:=Zh (HK6.out.trans (if_pos hrk));have hrd:decide (rx < ry)=true:=by simpa using hrk
   clear HK6;go_wp2_with fail;go_quiet (fail)
   go_wp2_with fail;go_quiet (fail)
   go_wp2;go_ret;exact ⟨ret_int HN.out.symm,extX⟩
  .have HN:=Zh (HK6.out.trans ((if_neg hrk).trans (if_neg (by rintro ⟨h,_⟩;omega))));have hrd:decide (rx < ry)=false:=by simpa using hrk
   clear HK6;go_wp2_with fail;go_quiet (fail)
   go_wp2_with fail;go_quiet (fail)
   go_wp2;go_ret;exact ⟨ret_int HN.out.symm,extX⟩
theorem c_l14WhyN {ar:List Int} {W:Wt} (hs:SigP ar) (hW:WtP ar W):∀ (N:Nat) (u v:Tm),u.flat.length≤N→u.Ok ar→v.Ok ar→WhyS ar W u v
 | 0,u,v,h,_,_=>by have:=flat_pos u;omega
 | N+1,.node x us,.node y ts,h,hu,hv=>c_l14Why hs hW hu hv fun a ha b hb=>
  c_l14WhyN hs hW N a b (by have:=mem_flatL_len ha;rw [flat_node,List.length_cons] at h;omega) (OkL_iff.1 (Ok_node.1 hu).2 a ha) (OkL_iff.1 (Ok_node.1 hv).2 b hb)
theorem c_l14Why_ok {v0 v1 v2 v3:Value} {ar:List Int} {W:Wt} {s t:List Int} {w:World} (hs:SigP ar) (hW:WtP ar W) (ht1:TermP ar s) (ht2:TermP ar t) (h1:RdSig w v0 ar) (h0:RdWt w v1 W) (h2:RdIc w v2 s) (h3:RdIc w v3 t) :
 Calls Tryz.prog 59 #[v0,v1,v2,v3] w fun e w'=>e=.returned (.int .i64 (kbo ar W (tmOf ar s) (tmOf ar t)))∧Ext w w':=by
 obtain ⟨a1,a2⟩:=tmOf_ok ht1;obtain ⟨b1,b2⟩:=tmOf_ok ht2;exact c_l14WhyN hs hW _ (tmOf ar s) (tmOf ar t) (Nat.le_refl _) a1 b1 _ _ _ _ _ h0 h1 (by rw [a2];exact h2) (by rw [b2];exact h3)
def KbAll (s:Sy) (W:Wt):Prop:=∀ (j:Nat) (r:Ru),s.rs[j]?=some r→kbo s.ar W (tmOf s.ar r.r) (tmOf s.ar r.l)≠0
noncomputable def kbAll (s:Sy) (W:Wt):Bool:=@decide (KbAll s W) (Classical.propDecidable _)
theorem kbAll_f {s:Sy} {W:Wt} {j:Nat} {r:Ru} (hr:s.rs[j]?=some r) (h:kbo s.ar W (tmOf s.ar r.r) (tmOf s.ar r.l)=0):kbAll s W=false:=by
 simp only [kbAll,decide_eq_false_iff_not];exact fun a=>a j r hr h
theorem kbAll_t {s:Sy} {W:Wt} (h:∀ (j:Nat) (r:Ru),j < s.rs.length→s.rs[j]?=some r→kbo s.ar W (tmOf s.ar r.r) (tmOf s.ar r.l)≠0):kbAll s W=true:=by
 simp only [kbAll,decide_eq_true_eq];exact fun j r hr=>h j r (List.getElem?_eq_some_iff.1 hr).1 hr
noncomputable def kboOrients (s:Sy) (W:Wt):Bool:=sysOk s && wtOk s.ar W && kbAll s W
theorem c_ikboOrients {v0 v1:Value} {s:Sy} {W:Wt} {w:World} (h0:RdSyC w v0 s) (h1:RdWt w v1 W) (hs:SysP s) (hW:WtP s.ar W) :
 Calls Tryz.prog 26 #[v0,v1] w fun e w'=>e=.returned (.bool (kbAll s W))∧Ext w w':=by
 obtain ⟨A,n,c,B,m,d,rfl,ha,hb⟩:=h0;obtain ⟨S,p,e,R,q,f,rfl,hsy,hrk⟩:=h1;have hm:=hb.le;have HL:=Zh hb.len;have HA:=Zh ha;have HB:=Zh hb;have HSY:=Zh hsy;have HRK:=Zh hrk;have HS:=Zh hs;have HW:=Zh hW;clear ha hb hsy hrk hs hW;go_enter Tryz.func26,Tryz.ntmps26;go_wp2_with fail;obtain ⟨wo,hwo⟩:∃ wo,wo=(w.alloc (.cells #[.slice A n c,.slice B m d] 32)).alloc (.cells #[.int .i64 W.var,.slice S p e,.slice R q f] 35):=⟨_,rfl⟩;have hw0:wo.cell? ⟨w.heap.size,0,none⟩=some (.slice A n c):=x0q38;have hw2:wo.cell? ⟨w.heap.size+1,0,none⟩=some (.int .i64 W.var):=x0q38;have hw3:wo.cell? ⟨w.heap.size+1,1,none⟩=some (.slice S p e):=x0q38;have hw4:wo.cell? ⟨w.heap.size+1,2,none⟩=some (.slice R q f):=x0q38;have hEo:Ext w wo:=by rw [hwo];exact extX
 rw [← hwo];clear hwo;go_loopw [10] (fun i wr=>∃ k:Nat,i=.int .i64 k∧k≤m∧Hid (∀ (j:Nat) (r:Ru),j < k→s.rs[j]?=some r→kbo s.ar W (tmOf s.ar r.r) (tmOf s.ar r.l)≠0)∧Ext wo wr) (fun i _=>m - (intOf i).toNat)
 case atStart=>exact ⟨0,rfl,Nat.zero_le _,Zh fun j y hj=>Zo,Ext.refl _⟩
 case round=>
  obtain ⟨k,rfl,hk,hp,hE2⟩:=hrel;have hw:Ext w wr:=Ext.trans hEo hE2;have hr0:wr.cell? ⟨w.heap.size,0,none⟩=some (.slice A n c):=Ext.keep hE2 hw0;have hr2:wr.cell? ⟨w.heap.size+1,0,none⟩=some (.int .i64 W.var):=Ext.keep hE2 hw2;have hr3:wr.cell? ⟨w.heap.size+1,1,none⟩=some (.slice S p e):=Ext.keep hE2 hw3;have hr4:wr.cell? ⟨w.heap.size+1,2,none⟩=some (.slice R q f):=Ext.keep hE2 hw4;have hws:w.heap.size+1 < wr.heap.size:=World.block_lt_of_cell? wr _ hr2;have hws0:w.heap.size < wr.heap.size:=by omega
  by_cases hlt:k < m
  .obtain ⟨b,o,r,A1,m1,c1,A2,m2,c2,rfl,hx,hd1,hd2,hr1,hr5,hcap1,hcap2⟩:=RR.at_ (RR.ext HB.out hw) hlt;have HX:=Zh hx;have HR1:=Zh hr1;have HR2:=Zh hr5;have HC1:=Zh (hcap1 rfl);have HC2:=Zh (hcap2 rfl);have hRP:=HS.out.2.2 k r hx;have HT1:=Zh hRP.1;have HT2:=Zh hRP.2.1;have HSG:=Zh HS.out.1;clear hx hr1 hr5 hcap1 hcap2 hRP;have hlt':(k:Int) < (m:Int):=by omega
   by_cases hz:kbo s.ar W (tmOf s.ar r.r) (tmOf s.ar r.l)=0
   .have HR:=Zh (kbAll_f HX.out hz);have hzb:(kbo s.ar W (tmOf s.ar r.r) (tmOf s.ar r.l) == 0)=true:=by simpa using hz
    go_wp2_with (go_at_call 49;(with_reducible refine (c_why_ok (ar:=s.ar) (W:=W) (s:=r.r) (t:=r.l) HSG.out HW.out HT2.out HT1.out (RdWt.mk (RI.ext HSY.out extX) (RI.ext HRK.out extX)) (RdSig.mk (RI.ext HA.out extX)) (RdIc.mk HC2.out (RI.ext HR2.out extX)) (RdIc.mk HC1.out (RI.ext HR1.out extX))).mono ?_);rintro e w5 ⟨rfl,hE5⟩)
    go_ret;exact ⟨ret_bool HR.out.symm,extX⟩
   .have hzb:(kbo s.ar W (tmOf s.ar r.r) (tmOf s.ar r.l) == 0)=false:=by simpa using hz
    have HP:=Zh (show ∀ (j:Nat) (r:Ru),j < k+1→s.rs[j]?=some r→kbo s.ar W (tmOf s.ar r.r) (tmOf s.ar r.l)≠0 from fun j y hj e=>by
     rcases Nat.lt_or_ge j k with h' | h'
     .exact hp.out j y h' e
     .obtain rfl:j=k:=by omega
      rw [HX.out] at e;cases e;exact hz)
    go_wp2_with (go_at_call 49;(with_reducible refine (c_why_ok (ar:=s.ar) (W:=W) (s:=r.r) (t:=r.l) HSG.out HW.out HT2.out HT1.out (RdWt.mk (RI.ext HSY.out extX) (RI.ext HRK.out extX)) (RdSig.mk (RI.ext HA.out extX)) (RdIc.mk HC2.out (RI.ext HR2.out extX)) (RdIc.mk HC1.out (RI.ext HR1.out extX))).mono ?_);rintro e w5 ⟨rfl,hE5⟩)
    go_roundw
    case rel=>exact ⟨k+1,by go_num,Zo,HP,extX⟩
    case measure=>exact mq38
  .have HR:=Zh (kbAll_t (s:=s) (W:=W) fun j r hj e=>hp.out j r (by rw [HL.out] at hj;omega) e);go_wp2;go_ret;exact ⟨ret_bool HR.out.symm,extX⟩
theorem c_l14Orients {v0 v1:Value} {s:Sy} {W:Wt} {w:World} (h0:RdSyC w v0 s) (h1:RdWt w v1 W) (hs:SysP s) (hW:WtP s.ar W) :
 Calls Tryz.prog 38 #[v0,v1] w fun e w'=>e=.returned (.bool (kbAll s W))∧Ext w w':=by
 obtain ⟨A,n,c,B,m,d,rfl,ha,hb⟩:=h0;obtain ⟨S,p,e,R,q,f,rfl,hsy,hrk⟩:=h1;have hm:=hb.le;have HL:=Zh hb.len;have HA:=Zh ha;have HB:=Zh hb;have HSY:=Zh hsy;have HRK:=Zh hrk;have HS:=Zh hs;have HW:=Zh hW;clear ha hb hsy hrk hs hW;go_enter Tryz.func38,Tryz.ntmps38;go_wp2_with fail;obtain ⟨wo,hwo⟩:∃ wo,wo=(w.alloc (.cells #[.slice A n c,.slice B m d] 32)).alloc (.cells #[.int .i64 W.var,.slice S p e,.slice R q f] 35):=⟨_,rfl⟩;have hw0:wo.cell? ⟨w.heap.size,0,none⟩=some (.slice A n c):=x0q38;have hw1:wo.cell? ⟨w.heap.size,1,none⟩=some (.slice B m d):=x0q38;have hw2:wo.cell? ⟨w.heap.size+1,0,none⟩=some (.int .i64 W.var):=x0q38;have hw3:wo.cell? ⟨w.heap.size+1,1,none⟩=some (.slice S p e):=x0q38;have hw4:wo.cell? ⟨w.heap.size+1,2,none⟩=some (.slice R q f):=x0q38;have hEo:Ext w wo:=by rw [hwo];exact extX
 rw [← hwo];clear hwo;go_loopw [5] (fun i wr=>∃ k:Nat,i=.int .i64 k∧k≤m∧Hid (∀ (j:Nat) (r:Ru),j < k→s.rs[j]?=some r→kbo s.ar W (tmOf s.ar r.r) (tmOf s.ar r.l)≠0)∧Ext wo wr) (fun i _=>m - (intOf i).toNat)
 case atStart=>exact ⟨0,rfl,Nat.zero_le _,Zh fun j y hj=>Zo,Ext.refl _⟩
 case round=>
  obtain ⟨k,rfl,hk,hp,hE2⟩:=hrel;have hw:Ext w wr:=Ext.trans hEo hE2;have hr0:wr.cell? ⟨w.heap.size,0,none⟩=some (.slice A n c):=Ext.keep hE2 hw0;have hr1':wr.cell? ⟨w.heap.size,1,none⟩=some (.slice B m d):=Ext.keep hE2 hw1;have hr2:wr.cell? ⟨w.heap.size+1,0,none⟩=some (.int .i64 W.var):=Ext.keep hE2 hw2;have hr3:wr.cell? ⟨w.heap.size+1,1,none⟩=some (.slice S p e):=Ext.keep hE2 hw3;have hr4:wr.cell? ⟨w.heap.size+1,2,none⟩=some (.slice R q f):=Ext.keep hE2 hw4;have hws:w.heap.size+1 < wr.heap.size:=World.block_lt_of_cell? wr _ hr2;by_cases hlt:k < m
  .obtain ⟨b,o,r,A1,m1,c1,A2,m2,c2,rfl,hx,hd1,hd2,hr1,hr5,hcap1,hcap2⟩:=RR.at_ (RR.ext HB.out hw) hlt;have HX:=Zh hx;have hEd:Ext wr wr.drew:=(Ext.refl wr).drew;have hEwd:Ext w wr.drew:=hw.drew;have HR1:=Zh (hr1.ext hEd);have HR2:=Zh (hr5.ext hEd);have HC1:=Zh (hcap1 rfl);have HC2:=Zh (hcap2 rfl);have hRP:=HS.out.2.2 k r hx;have HT1:=Zh hRP.1;have HT2:=Zh hRP.2.1;have HSG:=Zh HS.out.1;clear hx hr1 hr5 hcap1 hcap2 hRP;have hlt':(k:Int) < (m:Int):=by omega
   by_cases hz:kbo s.ar W (tmOf s.ar r.r) (tmOf s.ar r.l)=0
   .have HR:=Zh (kbAll_f HX.out hz);have hzb:(kbo s.ar W (tmOf s.ar r.r) (tmOf s.ar r.l) == 0)=true:=by simpa using hz
    go_wp2_with fail;go_still_tail 15,Zk
    change wpList _ _ _ _ _ wr.drew
    go_wp2_with fail
    (with_reducible refine (c_l14Why_ok (ar:=s.ar) (W:=W) (s:=r.r) (t:=r.l) HSG.out HW.out HT2.out HT1.out (RdSig.mk (RI.ext HA.out hEwd)) (RdWt.mk (RI.ext HSY.out hEwd) (RI.ext HRK.out hEwd)) (RdIc.mk HC2.out HR2.out) (RdIc.mk HC1.out HR1.out)).mono ?_);rintro e w5 ⟨rfl,hE5⟩;go_wp2_with fail;go_ret;exact ⟨ret_bool HR.out.symm,Ext.trans hEwd hE5⟩
   .have hzb:(kbo s.ar W (tmOf s.ar r.r) (tmOf s.ar r.l) == 0)=false:=by simpa using hz
    have HP:=Zh (show ∀ (j:Nat) (r:Ru),j < k+1→s.rs[j]?=some r→kbo s.ar W (tmOf s.ar r.r) (tmOf s.ar r.l)≠0 from fun j y hj e=>by
     rcases Nat.lt_or_ge j k with h' | h'
     .exact hp.out j y h' e
     .obtain rfl:j=k:=by omega
      rw [HX.out] at e;cases e;exact hz)
    go_wp2_with fail;go_still_tail 15,Zk
    change wpList _ _ _ _ _ wr.drew
    go_wp2_with fail
    (with_reducible refine (c_l14Why_ok (ar:=s.ar) (W:=W) (s:=r.r) (t:=r.l) HSG.out HW.out HT2.out HT1.out (RdSig.mk (RI.ext HA.out hEwd)) (RdWt.mk (RI.ext HSY.out hEwd) (RI.ext HRK.out hEwd)) (RdIc.mk HC2.out HR2.out) (RdIc.mk HC1.out HR1.out)).mono ?_);rintro e w5 ⟨rfl,hE5⟩;go_wp2_with fail;go_roundw
    case rel=>exact ⟨k+1,by go_num,Zo,HP,Ext.trans hE2 (Ext.trans hEd hE5)⟩
    case measure=>exact mq38
  .have HR:=Zh (kbAll_t (s:=s) (W:=W) fun j r hj e=>hp.out j r (by rw [HL.out] at hj;omega) e);go_wp2;go_ret;exact ⟨ret_bool HR.out.symm,extX⟩
theorem z15q38 {p:Prop} (h:p:=by (first | (first | (with_reducible exact RdI.mk (RI.ext (Hid.out (by with_reducible assumption)) extX)) | (with_reducible exact RdI.ext (by with_reducible assumption) extX)) | (with_reducible exact RdSyK.mk (by (first | (with_reducible exact RI.ext (Hid.out (by with_reducible assumption)) extX))) (RR.ext (Hid.out (by with_reducible assumption)) extX)) | (with_reducible exact RdSyK.ext (by with_reducible assumption) extX) | (with_reducible exact RdWt.mk (by (first | (with_reducible exact RI.ext (Hid.out (by with_reducible assumption)) extX))) (by (first | (with_reducible exact RI.ext (Hid.out (by with_reducible assumption)) extX)))) | (with_reducible exact RdWt.ext (by with_reducible assumption) extX) | (with_reducible exact RdSig.mk (by (first | (with_reducible exact RI.ext (Hid.out (by with_reducible assumption)) extX)))) | (with_reducible exact RdSig.ext (by with_reducible assumption) extX))):p:=h
theorem c_sKboOrients {v0 v1:Value} {s:Sy} {W:Wt} {w:World} (h0:RdSyC w v0 s) (h1:RdWt w v1 W) :
 Calls Tryz.prog 12 #[v0,v1] w fun e w'=>e=.returned (.bool (kboOrients s W))∧Ext w w':=by
 obtain ⟨A,n,c,B,m,d,rfl,ha,hb⟩:=h0;obtain ⟨S,p,e,R,q,f,rfl,hsy,hrk⟩:=h1;have HA:=Zh ha;have HB:=Zh hb;have HSY:=Zh hsy;have HRK:=Zh hrk;clear ha hb hsy hrk;cases hs:sysOk s with
 | false=>
  have HR:=Zh (show kboOrients s W=false by unfold kboOrients;rw [hs];rfl);go_enter Tryz.func12,Tryz.ntmps12;go_wp2_with (go_at_call 30;(with_reducible refine (c_sSystemOk (s:=s) z15q38).mono ?_);rintro e w1 ⟨rfl,hE1⟩;have hz1:=Zs hE1;obtain ⟨hc1,hf1⟩:=bcell hE1;(try have hq1_0:w.heap.size < w1.heap.size:=Zo);(try have hq1_1:w.heap.size+1 < w1.heap.size:=Zo))
  go_ret;exact ⟨ret_bool HR.out.symm,extX⟩
 | true=>
  cases hw:wtOk s.ar W with
  | false=>
   have HR:=Zh (show kboOrients s W=false by unfold kboOrients;rw [hs,hw];rfl);go_enter Tryz.func12,Tryz.ntmps12
   go_wp2_with (first
    | (go_at_call 30;(with_reducible refine (c_sSystemOk (s:=s) z15q38).mono ?_);rintro e w1 ⟨rfl,hE1⟩;have hz1:=Zs hE1;obtain ⟨hc1,hf1⟩:=bcell hE1;(try have hq1_0:w.heap.size < w1.heap.size:=Zo);(try have hq1_1:w.heap.size+1 < w1.heap.size:=Zo))
    | (go_at_call 37;(with_reducible refine (c_sWeightsOk (ar:=s.ar) (t:=W) z15q38 z15q38).mono ?_);rintro e w2 ⟨rfl,hE2⟩;have hz2:=Zs hE2;obtain ⟨hc2,hf2⟩:=bcell hE2;(try have hq2_0:w.heap.size < w2.heap.size:=Zo);(try have hq2_1:w.heap.size+1 < w2.heap.size:=Zo)))
   go_ret;exact ⟨ret_bool HR.out.symm,extX⟩
  | true=>
   have HR:=Zh (show kboOrients s W=kbAll s W by unfold kboOrients;rw [hs,hw];rfl);have HS:=Zh (sysOk_iff.1 hs);have HW:=Zh (wtOk_iff.1 hw);go_enter Tryz.func12,Tryz.ntmps12
   go_wp2_with (first
    | (go_at_call 30;(with_reducible refine (c_sSystemOk (s:=s) z15q38).mono ?_);rintro e w1 ⟨rfl,hE1⟩;have hz1:=Zs hE1;obtain ⟨hc1,hf1⟩:=bcell hE1;(try have hq1_0:w.heap.size < w1.heap.size:=Zo);(try have hq1_1:w.heap.size+1 < w1.heap.size:=Zo))
    | (go_at_call 37;(with_reducible refine (c_sWeightsOk (ar:=s.ar) (t:=W) z15q38 z15q38).mono ?_);rintro e w2 ⟨rfl,hE2⟩;have hz2:=Zs hE2;obtain ⟨hc2,hf2⟩:=bcell hE2;(try have hq2_0:w.heap.size < w2.heap.size:=Zo);(try have hq2_1:w.heap.size+1 < w2.heap.size:=Zo))
    | (go_at_call 38;(with_reducible refine (c_l14Orients (s:=s) (W:=W) z15q38 z15q38 HS.out HW.out).mono ?_);rintro e w3 ⟨rfl,hE3⟩;(try have hq3_0:w.heap.size < w3.heap.size:=Zo)))
   all_goals go_ret
   all_goals exact ⟨ret_bool HR.out.symm,extX⟩
structure B3 (w:World) (q:Nat) (u v x:Value):Prop where
 c0:w.cell? ⟨q,0,none⟩=some u
 c1:w.cell? ⟨q,1,none⟩=some v
 c2:w.cell? ⟨q,2,none⟩=some x
 fr:∀ j,w.frozen? ⟨q,j,none⟩=false
section
variable {w w':World} {q:Nat} {u v x:Value}
theorem B3.lt (h:B3 w q u v x):q < w.heap.size:=World.block_lt_of_cell? w _ h.c0
theorem B3.ext (h:B3 w q u v x) (k:Ext w w'):B3 w' q u v x:=⟨Ext.keep k h.c0,Ext.keep k h.c1,Ext.keep k h.c2,fun j=>(Below.frozen (p:=⟨q,j,none⟩) k h.lt).trans (h.fr j)⟩
theorem B3.new (W:World) (u v x:Value):∀ q,q=W.heap.size→B3 (W.alloc (.cells #[u,v,x] 35)) q u v x:=fun q e=>by
 subst e;exact ⟨by simp [go_sem],by simp [go_sem],by simp [go_sem],by intro j;simp [go_sem]⟩
end
def TR (s:Sy) (sym rk:List Int):Prop:=kboOrients s ⟨1,sym,rk⟩=true
noncomputable def rkO (s:Sy) (sym:List Int) (n:Nat):Option (List Int):=gsR (TR s sym) (muR (upI 0 n)+1) (upI 0 n)
def TW (s:Sy) (n:Nat) (sym:List Int):Prop:=(rkO s sym n).isSome=true

