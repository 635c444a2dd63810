/- -/
import Derived.Test.YtiblbnkpjmmjaaaGreatQ35
import Derived.Test.YtiblbnkpjmmjaaaGreatQ34
set_option maxRecDepth 100000
set_option maxHeartbeats 16000000
set_option linter.all false
namespace Go.Proofs.YtiblbnkpjmmjaaaGreat
open Go.RowKit
theorem c_l13BagO {v0 v1 v2 v3:Value} {ar rk s t:List Int} {b:Bool} {w:World} (hok:lpoArgs ar rk s t=true) (hb:decide (0 < lpoA ar rk false s t)=b) (h0:RdSig w v0 ar) (h1:RdI w v1 rk) (h2:RdIc w v2 s) (h3:RdIc w v3 t) :
 Calls Tryz.prog 57 #[v0,v1,v2,v3] w fun e w'=>e=.returned (.bool b)∧Ext w w':=by
 obtain ⟨A,n,c,rfl,ha⟩:=h0;obtain ⟨R,rn,rc,rfl,hr⟩:=h1;obtain ⟨D,k,l,rfl,hkl,hd⟩:=h2;obtain ⟨B,m,d,rfl,hmd,hbb⟩:=h3;obtain ⟨⟨g1,g2⟩,g3,g4,g5⟩:=lpoArgs_iff.1 hok;subst hb;exact c_l13Bag g3 g4 g2 g1 ha hr hbb hd hmd hkl
theorem mq36 {p:Prop} (h:p:=by simp only [intOf];omega):p:=h
theorem z15q36 {p:Prop} (h:p:=by (first | (first | (with_reducible exact RdI.mk (RI.ext (Hid.out (by with_reducible assumption)) extX)) | (with_reducible exact RdI.ext (by with_reducible assumption) extX)) | (with_reducible exact RdSyK.mk (by (first | (with_reducible exact RI.ext (Hid.out (by with_reducible assumption)) extX))) (RR.ext (Hid.out (by with_reducible assumption)) extX)) | (with_reducible exact RdSyK.ext (by with_reducible assumption) extX) | (with_reducible exact RdSig.mk (by (first | (with_reducible exact RI.ext (Hid.out (by with_reducible assumption)) extX)))) | (with_reducible exact RdSig.ext (by with_reducible assumption) extX))):p:=h
theorem c_sOrientsBags {v0 v1:Value} {s:Sy} {rk:List Int} {w:World} (h0:RdSyC w v0 s) (h1:RdI w v1 rk) :
 Calls Tryz.prog 34 #[v0,v1] w fun e w'=>e=.returned (.bool (orientsV false s rk))∧Ext w w':=by
 obtain ⟨A,n,c,B,m,d,rfl,ha,hb⟩:=h0;obtain ⟨R,q,f,rfl,hrk⟩:=h1;have hm:=hb.le;have HL:=Zh hb.len;have HA:=Zh ha;have HB:=Zh hb;have HRK:=Zh hrk;clear ha hb hrk;cases hs:sysOk s with
 | false=>
  have HR:=Zh (orientsV_sys (lex:=false) (rk:=rk) hs);go_enter Tryz.func34,Tryz.ntmps34;go_wp2_with (go_at_call 30;(with_reducible refine (c_sSystemOk (s:=s) z15q36).mono ?_);rintro e w1 ⟨rfl,hE1⟩;have hz1:=Zs hE1;obtain ⟨hc1,hf1⟩:=bcell hE1)
  go_ret;exact ⟨ret_bool HR.out.symm,extX⟩
 | true=>
  cases hk:rankOk s.ar rk with
  | false=>
   have HR:=Zh (orientsV_rank (lex:=false) hs hk);go_enter Tryz.func34,Tryz.ntmps34
   go_wp2_with (first
    | (go_at_call 30;(with_reducible refine (c_sSystemOk (s:=s) z15q36).mono ?_);rintro e w1 ⟨rfl,hE1⟩;have hz1:=Zs hE1;obtain ⟨hc1,hf1⟩:=bcell hE1)
    | (go_at_call 56;(with_reducible refine (c_sRankOk (ar:=s.ar) (rk:=rk) z15q36 z15q36).mono ?_);rintro e w2 ⟨rfl,hE2⟩;have hz2:=Zs hE2;obtain ⟨hc2,hf2⟩:=bcell hE2))
   go_ret;exact ⟨ret_bool HR.out.symm,extX⟩
  | true=>
   have HR0:=Zh (orientsV_all (lex:=false) hs hk);have HS:=Zh (sysOk_iff.1 hs);have HK:=Zh hk;clear hs hk;have hsok:sysOk s=true:=sysOk_iff.2 HS.out;have hkok:rankOk s.ar rk=true:=HK.out;go_enter Tryz.func34,Tryz.ntmps34;go_wp2_with fail
   (with_reducible refine (c_sSystemOk (s:=s) z15q36).mono ?_);rintro e w1 ⟨rfl,hE1⟩;have hz1:=Zs hE1;obtain ⟨hc1,hf1⟩:=bcell hE1;have hs0:w1.cell? ⟨w.heap.size,0,none⟩=some (.slice A n c):=Ext.keep hE1 (by simp [go_sem]);have hs1:w1.cell? ⟨w.heap.size,1,none⟩=some (.slice B m d):=Ext.keep hE1 (by simp [go_sem]);go_wp2_with fail
   (with_reducible refine (c_sRankOk (ar:=s.ar) (rk:=rk) z15q36 z15q36).mono ?_);rintro e w2 ⟨rfl,hE2⟩;have hz2:=Zs hE2;obtain ⟨hc2,hf2⟩:=bcell hE2;have hw0:w2.cell? ⟨w.heap.size,0,none⟩=some (.slice A n c):=Ext.keep hE2 hs0;have hw1:w2.cell? ⟨w.heap.size,1,none⟩=some (.slice B m d):=Ext.keep hE2 hs1;have hEo:Ext w w2:=extX;go_wp2_with fail;go_loopw [5] (fun i wr=>∃ k:Nat,i=.int .i64 k∧k≤m∧Hid (∀ (j:Nat) (r:Ru),j < k→s.rs[j]?=some r→lpoA s.ar rk false r.r r.l≠0)∧Ext w2 wr) (fun i _=>m - (intOf i).toNat)
   case atStart=>exact ⟨0,rfl,Nat.zero_le _,Zh fun j y hj=>Zo,Ext.refl _⟩
   case round=>
    obtain ⟨k,rfl,hk,hp,hE9⟩:=hrel;have hw:Ext w wr:=Ext.trans hEo hE9;have hr0:wr.cell? ⟨w.heap.size,0,none⟩=some (.slice A n c):=Ext.keep hE9 hw0;have hr1':wr.cell? ⟨w.heap.size,1,none⟩=some (.slice B m d):=Ext.keep hE9 hw1;by_cases hlt:k < m
    .obtain ⟨b,o,r,A1,m1,c1,A2,m2,c2,rfl,hx,hd1,hd2,hr1,hr5,hcap1,hcap2⟩:=RR.at_ (RR.ext HB.out hw) hlt;have hEd:Ext wr wr.drew:=(Ext.refl wr).drew;have hEwd:Ext w wr.drew:=hw.drew;have HX:=Zh hx;have HR1:=Zh (hr1.ext hEd);have HR2:=Zh (hr5.ext hEd);have HC1:=Zh (hcap1 rfl);have HC2:=Zh (hcap2 rfl);have HOK:=Zh (lpoArgs_rule HS.out HK.out hx);clear hx hr1 hr5 hcap1 hcap2;have hlt':(k:Int) < (m:Int):=by omega
     obtain ⟨V,hV⟩:∃ V,decide (0 < lpoA s.ar rk false r.r r.l)=V:=⟨_,rfl⟩;have HV:=Zh hV;clear hV;by_cases hz:V=false
     .have HR:=Zh (lpAll_f (lex:=false) (rk:=rk) HX.out (by have:=HV.out;rw [hz,decide_eq_false_iff_not] at this;omega));have hzb:(!V)=true:=by rw [hz];rfl
      clear hz;go_wp2_with fail;go_still_tail 15,Zk
      change wpList _ _ _ _ _ wr.drew
      go_wp2_with fail
      (with_reducible refine (c_l13BagO HOK.out HV.out (RdSig.mk (RI.ext HA.out hEwd)) (RdI.mk (RI.ext HRK.out hEwd)) (RdIc.mk HC2.out HR2.out) (RdIc.mk HC1.out HR1.out)).mono ?_);rintro e w5 ⟨rfl,hE5⟩;go_wp2;go_ret;exact ⟨ret_bool (by rw [HR0.out,HR.out]),Ext.trans hEwd hE5⟩
     .have hzb:(!V)=false:=by cases V with | false=>exact absurd rfl hz | true=>rfl
      have HP:=Zh (show ∀ (j:Nat) (r:Ru),j < k+1→s.rs[j]?=some r→lpoA s.ar rk false r.r r.l≠0 from fun j y hj e=>by
       rcases Nat.lt_or_ge j k with h' | h'
       .exact hp.out j y h' e
       .obtain rfl:j=k:=by omega
        rw [HX.out] at e;cases e;have:=HV.out;rw [show V=true by cases V with | false=>exact absurd rfl hz | true=>rfl,decide_eq_true_eq] at this;omega)
      clear hz;go_wp2_with fail;go_still_tail 15,Zk
      change wpList _ _ _ _ _ wr.drew
      go_wp2_with fail
      (with_reducible refine (c_l13BagO HOK.out HV.out (RdSig.mk (RI.ext HA.out hEwd)) (RdI.mk (RI.ext HRK.out hEwd)) (RdIc.mk HC2.out HR2.out) (RdIc.mk HC1.out HR1.out)).mono ?_);rintro e w5 ⟨rfl,hE5⟩;go_wp2;go_roundw
      case rel=>exact ⟨k+1,by go_num,Zo,HP,Ext.trans hE9 (Ext.trans hEd hE5)⟩
      case measure=>exact mq36
    .have HR:=Zh (lpAll_t (s:=s) (rk:=rk) (lex:=false) fun j r hj e=>hp.out j r (by rw [HL.out] at hj;omega) e);go_wp2;go_ret;exact ⟨ret_bool (by rw [HR0.out,HR.out]),extX⟩
theorem c_sOrBF {v0 v1:Value} {s:Sy} {rk:List Int} {b:Bool} {w:World} (hb:orientsV false s rk=b) (h0:RdSyC w v0 s) (h1:RdI w v1 rk) :
 Calls Tryz.prog 34 #[v0,v1] w fun e w'=>e=.returned (.bool b)∧Ext w w':=by subst hb;exact c_sOrientsBags h0 h1
theorem c_sFirstBags {v0:Value} {s:Sy} {o:Option (List Int)} {w:World} (ho:ansF false s=o) (h0:RdSyC w v0 s) :
 Calls Tryz.prog 10 #[v0] w fun e w'=>SfOut w o e w':=by
 obtain ⟨A0,n0,c0,B0,m0,d0,rfl,ha,hb⟩:=h0;have HA:=Zh ha;have HB:=Zh hb;have hL:=ha.1.1;clear ha hb;cases hs:sysOk s with
 | false=>
  have hn:o=none:=by rw [← ho];unfold ansF;rw [hs];rfl
  subst hn;have HSO:=Zh hs;clear ho hs;go_enter Tryz.func10,Tryz.ntmps10;go_wp2_with fail
  (with_reducible refine (c_sSystemOkF HSO.out (RdSyK.mk (RI.ext HA.out extX) (RR.ext HB.out extX))).mono ?_);rintro e w2 ⟨rfl,hE2⟩;have HE2:=Zh (show Ext w w2 by exact extX);clear hE2;go_wp2_with fail;refine bodyPost_ret (v:=.tuple #[.slice (some ⟨w2.heap.size,0,none⟩) 0 0,.bool false]) (by simp [results,Tryz.results10,go_sem]) rfl ?_;exact ⟨_,0,0,rfl,⟨⟨rfl,by decide⟩,Zo⟩,HE2.out.alloc _⟩
 | true=>
  have hSy:=sysOk_iff.1 hs;have h8:s.ar.length≤8:=hSy.1.2.1;have HSP:=Zh hSy;have HSO:=Zh hs;have HW0:=Zh (show OnG (TO false s) o (muR (upI 0 n0)+1) (upI 0 n0) from OnG.start (upI_ok Zo) (by rw [← hL,ansF_gs hs];exact ho));clear ho hs hSy;go_enter Tryz.func10,Tryz.ntmps10;go_wp2_with fail
  (with_reducible refine (c_sSystemOkF HSO.out (RdSyK.mk (RI.ext HA.out extX) (RR.ext HB.out extX))).mono ?_);rintro e w2 ⟨rfl,hE2⟩;have b0:w2.cell? ⟨w.heap.size,0,none⟩=some (.slice A0 n0 c0):=Ext.keep hE2 (by simp [go_sem]);have b1:w2.cell? ⟨w.heap.size,1,none⟩=some (.slice B0 m0 d0):=Ext.keep hE2 (by simp [go_sem]);have HE2:=Zh (show Ext w w2 by exact extX);clear hE2;go_wp2_with fail
  (with_reducible refine (c_l16First (n:=n0) Zo).mono ?_);rintro e w3 ⟨RA,rn,rc,rfl,hR3,hE3⟩;have hcp3:=hR3.cap;have HR3:=Zh hR3.ri;have k0:=Ext.keep hE3 b0;have k1:=Ext.keep hE3 b1;have HE3:=Zh (Ext.trans HE2.out hE3);clear hR3 hE3 b0 b1;go_wp2_with fail;go_loopw [4,5] (fun rv mv wr=>∃ more:Bool,mv=.bool more∧Hid (Ext w3 wr)∧Hid ((more=true→∃ k RA rn rc rk,rv=.slice RA rn rc∧RI wr RA rn rk∧(rn≤rc∧rc≤9223372036854775807)∧rk.length=n0∧OnG (TO false s) o k rk)∧(more=false→o=none))) (fun rv mv wr=>frMeas (TO false s) n0 o rv mv wr)
  case atStart=>exact ⟨true,rfl,Zh (Ext.refl _),Zh ⟨fun _=>⟨_,RA,rn,rc,_,rfl,HR3.out,hcp3,upI_len _ _,HW0.out⟩,fun h=>by cases h⟩⟩
  case round=>
   obtain ⟨more,rfl,hEr,hI⟩:=hrel;have HErw:=Zh (Ext.trans HE3.out hEr.out);have y0:=Ext.keep hEr.out k0;have y1:=Ext.keep hEr.out k1;cases more with
   | false=>
    have HN:=Zh (hI.out.2 rfl);go_wp2_with fail;rw [HN.out];refine bodyPost_ret (v:=.tuple #[.slice (some ⟨wr.heap.size,0,none⟩) 0 0,.bool false]) (by simp [results,Tryz.results10,go_sem]) rfl ?_;exact ⟨_,0,0,rfl,⟨⟨rfl,by decide⟩,Zo⟩,HErw.out.alloc _⟩
   | true=>
    obtain ⟨_,RA,rn,rc,_,rfl,_,hcp,_,_⟩:=hI.out.1 rfl;have hex:∃ k,∃ A n c rk,Value.slice RA rn rc=.slice A n c∧RI wr A n rk∧rk.length=n0∧OnG (TO false s) o k rk:=by
     obtain ⟨k,RA',rn',rc',rk,h0,h1,h2,h3,h4⟩:=hI.out.1 rfl;exact ⟨k,RA',rn',rc',rk,h0,h1,h3,h4⟩
    obtain ⟨⟨A',n',c',rk,e',hX,hlen,hW⟩,_⟩:=leastOf_spec hex;have e1:RA=A':=by cases e';rfl
    have e2:rn=n':=by cases e';rfl
    have e3:rc=c':=by cases e';rfl
    subst e1;subst e2;subst e3;clear e';have hk:rankOk s.ar rk=true:=rank_of_perm HSP.out hW.1 (by rw [hlen,hL]);have HTO:=Zh (show TO false s rk↔orientsV false s rk=true by unfold TO;exact Iff.rfl);have HX:=Zh hX;have HW:=Zh hW;have HLN:=Zh hlen;obtain ⟨g,hg⟩:∃ g,orientsV false s rk=g:=⟨_,rfl⟩;have HG:=Zh hg;clear hX hW hex hg hk hlen;go_wp2_with fail
    (with_reducible refine (c_sOrBF HG.out (RdSyK.mk (RI.ext HA.out HErw.out) (RR.ext HB.out HErw.out)) (RdI.mk HX.out)).mono ?_);rintro e w5 ⟨rfl,hE5⟩;have HE5:=Zh (Ext.trans hEr.out hE5);have HE5w:=Zh (Ext.trans HErw.out hE5);have HX5:=Zh (RI.ext HX.out hE5);have z0:=Ext.keep hE5 y0;have z1:=Ext.keep hE5 y1;clear hE5 y0 y1;cases g with
    | true=>
     have ho:o=some rk:=HW.out.yes (HTO.out.2 HG.out);go_wp2_with fail;refine bodyPost_ret (v:=.tuple #[.slice RA rn rc,.bool true]) (by simp [results,Tryz.results10,go_sem]) rfl ?_;rw [ho];exact ⟨RA,rn,rc,rfl,HX5.out,HE5w.out⟩
    | false=>
     have hgo:¬ TO false s rk:=fun h=>by have h2:=HTO.out.1 h;rw [HG.out] at h2;cases h2
     obtain ⟨nb,hnb⟩:∃ b,nextB rk=b:=⟨_,rfl⟩;have HNB:=Zh hnb;clear hnb;go_wp2_with fail
     (with_reducible refine (c_sNextRank HX5.out hcp).mono ?_);rintro e w6 ⟨NA,nn,nc,rfl,hncp,hnfar,hNR,hE6⟩;rw [HNB.out];have HE6:=Zh (Ext.trans HE5.out hE6);have HNR:=Zh hNR;have HNX:=Zh (show (nb=true→∃ m,m < leastOf (fun k=>∃ A n c rk,Value.slice RA rn rc=.slice A n c∧RI wr A n rk∧rk.length=n0∧OnG (TO false s) o k rk)∧OnG (TO false s) o m (nextV rk))∧(nb=false→o=none) from ⟨fun e=>by rw [e] at HNB;exact HW.out.next hgo HNB.out,fun e=>by rw [e] at HNB;exact HW.out.stop hgo HNB.out⟩);have HNL:=Zh (show nb=true→(nextV rk).length=n0 from fun e=>by rw [e] at HNB;rw [(nextV_up HNB.out).2.1];exact HLN.out);clear hNR hnfar z0 z1 hE6;go_wp2_with fail;go_roundw
     case rel=>exact ⟨nb,rfl,HE6,Zh ⟨fun e=>by
      obtain ⟨m,_,hm⟩:=HNX.out.1 e;exact ⟨m,NA,nn,nc,_,rfl,HNR.out,hncp,HNL.out e,hm⟩,HNX.out.2⟩⟩
     case measure=>
      rw [frMeas_t];cases nb with
      | false=>rw [frMeas_f];omega
      | true=>
       rw [frMeas_t];obtain ⟨m,hm1',hm2⟩:=HNX.out.1 rfl;have:=leastOf_le (R:=fun k=>∃ A n c rk,Value.slice NA nn nc=.slice A n c∧RI w6 A n rk∧rk.length=n0∧OnG (TO false s) o k rk) ⟨NA,nn,nc,_,rfl,HNR.out,HNL.out rfl,hm2⟩;omega
theorem c_countIn {v:Value} {t:List Int} {x:Int} {w:World} (h0:RdI w v t) :
 Calls Tryz.prog 97 #[v,.int .i64 x] w fun e w'=>e=.returned (.int .i64 (t.count x))∧w=w':=by
 obtain ⟨A,n,c,rfl,ha⟩:=h0;have hn:=ha.le;have hl:=ha.len;have HA:=Zh ha;have HL:=Zh hl;clear ha hl;go_enter Tryz.func97,Tryz.ntmps97;go_wp2;go_loop [5,10] (fun a i=>∃ k:Nat,i=.int .i64 k∧k≤n∧∃ q:Nat,a=.int .i64 q∧q≤k∧Hid (q=(t.take k).count x)) (fun _ i=>n - (intOf i).toNat)
 case atStart=>exact ⟨0,rfl,Nat.zero_le _,0,rfl,Nat.le_refl _,Zh (by simp)⟩
 case round=>
  obtain ⟨k,rfl,hk,q,rfl,hqk,hy⟩:=hrel;by_cases hlt:k < n
  .obtain ⟨b',o',z,e',hz,hcz⟩:=RI.at_ HA.out hlt;cases e';have HZ:=Zh (count_snoc (x:=x) hz);clear hz;by_cases hzx:z=x
   .subst hzx;go_wp2;go_round
    case rel=>exact ⟨k+1,by go_num,Zo,q+1,by go_num,Zo,Zh (by rw [HZ.out,← hy.out,if_pos rfl])⟩
    case measure=>exact mq36
   .go_wp2;go_round
    case rel=>exact ⟨k+1,by go_num,Zo,q,by go_num,Zo,Zh (by rw [HZ.out,← hy.out,if_neg hzx];rfl)⟩
    case measure=>exact mq36
  .go_wp2;go_ret;exact ⟨ret_int (by rw [hy.out,List.take_of_length_le (by rw [HL.out];omega)]),rfl⟩
theorem c_l14Count {v:Value} {t:List Int} {x:Int} {w:World} (h0:RdI w v t) :
 Calls Tryz.prog 106 #[v,.int .i64 x] w fun e w'=>e=.returned (.int .i64 (t.count x))∧w=w':=by
 obtain ⟨A,n,c,rfl,ha⟩:=h0;have hn:=ha.le;have hl:=ha.len;have HA:=Zh ha;have HL:=Zh hl;clear ha hl;go_enter Tryz.func106,Tryz.ntmps106;go_wp2;go_loop [5,6] (fun a i=>∃ k:Nat,i=.int .i64 k∧k≤n∧∃ q:Nat,a=.int .i64 q∧q≤k∧Hid (q=(t.take k).count x)) (fun _ i=>n - (intOf i).toNat)
 case atStart=>exact ⟨0,rfl,Nat.zero_le _,0,rfl,Nat.le_refl _,Zh (by simp)⟩
 case round=>
  obtain ⟨k,rfl,hk,q,rfl,hqk,hy⟩:=hrel;by_cases hlt:k < n
  .obtain ⟨b',o',z,e',hz,hcz⟩:=RI.at_ HA.out hlt;cases e';have HZ:=Zh (count_snoc (x:=x) hz);clear hz;by_cases hzx:z=x
   .subst hzx;go_wp2;go_round
    case rel=>exact ⟨k+1,by go_num,Zo,q+1,by go_num,Zo,Zh (by rw [HZ.out,← hy.out,if_pos rfl])⟩
    case measure=>exact mq36
   .go_wp2;go_round
    case rel=>exact ⟨k+1,by go_num,Zo,q,by go_num,Zo,Zh (by rw [HZ.out,← hy.out,if_neg hzx];rfl)⟩
    case measure=>exact mq36
  .go_wp2;go_ret;exact ⟨ret_int (by rw [hy.out,List.take_of_length_le (by rw [HL.out];omega)]),rfl⟩
theorem oft_ge {s t:List Int} {x:Int} (h:¬ t.count x < s.count x):s.count x≤t.count x:=Zo
theorem z16q36 {p:Prop} (h:p:=by (first | (first | (with_reducible exact RdI.mk (RI.ext (Hid.out (by with_reducible assumption)) extX)) | (with_reducible exact RdI.ext (by with_reducible assumption) extX)) | fail | (with_reducible exact RdSig.mk (by (first | (with_reducible exact RI.ext (Hid.out (by with_reducible assumption)) extX)))) | (with_reducible exact RdSig.ext (by with_reducible assumption) extX))):p:=h
theorem c_often {v0 v1:Value} {s t:List Int} {w:World} (h0:RdI w v0 s) (h1:RdI w v1 t) :
 Calls Tryz.prog 69 #[v0,v1] w fun e w'=>e=.returned (.bool (oft s t))∧w=w':=by
 obtain ⟨A,n,c,rfl,ha⟩:=h0;obtain ⟨B,m,d,rfl,hb⟩:=h1;have hn:=ha.le;have hl:=ha.len;have hk2:=hb.len;have HA:=Zh ha;have HB:=Zh hb;have HL:=Zh hl;have HM:=Zh hk2;clear ha hb hl hk2;go_enter Tryz.func69,Tryz.ntmps69;go_wp2;go_loop [9] (fun i=>∃ k:Nat,i=.int .i64 k∧k≤n∧Hid (OftTo s t k)) (fun i=>n - (intOf i).toNat)
 case atStart=>exact ⟨0,rfl,Nat.zero_le _,Zh OftTo.start⟩
 case round=>
  obtain ⟨k,rfl,hk,hy⟩:=hrel;by_cases hlt:k < n
  .obtain ⟨b',o',z,e',hz,hcz⟩:=RI.at_ HA.out hlt;cases e';have HZ:=Zh hz;clear hz;by_cases h0:z < 0
   .by_cases hc:t.count z < s.count z
    .have HR:=Zh (oft_f HZ.out h0 hc);have hc':((t.count z:Nat):Int) < (s.count z:Nat):=by omega
     go_wp2_with (first
      | (go_at_call 97;(with_reducible refine (c_countIn (t:=s) (x:=z) z16q36).mono ?_);rintro e w2 ⟨rfl,rfl⟩)
      | (go_at_call 97;(with_reducible refine (c_countIn (t:=t) (x:=z) z16q36).mono ?_);rintro e w2 ⟨rfl,rfl⟩))
     go_ret;exact ⟨ret_bool HR.out.symm,rfl⟩
    .have HR:=Zh (hy.out.step HZ.out fun _=>oft_ge hc);have hc':¬ ((t.count z:Nat):Int) < (s.count z:Nat):=by omega
     go_wp2_with (first
      | (go_at_call 97;(with_reducible refine (c_countIn (t:=s) (x:=z) z16q36).mono ?_);rintro e w2 ⟨rfl,rfl⟩)
      | (go_at_call 97;(with_reducible refine (c_countIn (t:=t) (x:=z) z16q36).mono ?_);rintro e w2 ⟨rfl,rfl⟩))
     go_round
     case rel=>exact ⟨k+1,by go_num,Zo,HR⟩
     case measure=>exact mq36
   .have HR:=Zh (hy.out.step HZ.out fun h=>absurd h h0);go_wp2;go_round
    case rel=>exact ⟨k+1,by go_num,Zo,HR⟩
    case measure=>exact mq36
  .go_wp2;go_ret;exact ⟨ret_bool (hy.out.done (by rw [HL.out];omega)).symm,rfl⟩
theorem q_l14Count {v:Value} {t:List Int} {x:Int} {w:World} (h0:RdI w v t) :
 Calls Tryz.prog 106 #[v,.int .i64 x] w fun e w'=>e=.returned (.int .i64 (t.count x))∧w'=w:=(c_l14Count h0).mono fun _ _ h=>⟨h.1,h.2.symm⟩
theorem c_l14Often {v0 v1:Value} {s t:List Int} {w:World} (h0:RdI w v0 s) (h1:RdI w v1 t) :
 Calls Tryz.prog 82 #[v0,v1] w fun e w'=>e=.returned (.bool (oft s t))∧Ext w w':=by
 obtain ⟨A,n,c,rfl,ha⟩:=h0;obtain ⟨B,m,d,rfl,hb⟩:=h1;have hn:=ha.le;have hl:=ha.len;have hk2:=hb.len;have HA:=Zh ha;have HB:=Zh hb;have HL:=Zh hl;have HM:=Zh hk2;clear ha hb hl hk2;go_enter Tryz.func82,Tryz.ntmps82;go_wp2;go_loopw [5] (fun i wr=>∃ k:Nat,i=.int .i64 k∧k≤n∧Hid (OftTo s t k)∧Ext w wr) (fun i _=>n - (intOf i).toNat)
 case atStart=>exact ⟨0,rfl,Nat.zero_le _,Zh OftTo.start,extX⟩
 case round=>
  obtain ⟨k,rfl,hk,hy,hE⟩:=hrel;by_cases hlt:k < n
  .obtain ⟨b',o',z,e',hz,hcz⟩:=RI.at_ (RI.ext HA.out hE) hlt;cases e';have HZ:=Zh hz;clear hz;have hk0:(0:Int)≤(k:Int):=by omega
   have hkn:(k:Int) < (n:Int):=by omega
   by_cases h0:z < 0
   .have hb0:decide (z < 0)=true:=by simpa using h0
    by_cases hc:t.count z < s.count z
    .have HR:=Zh (oft_f HZ.out h0 hc);go_wp2_with fail
     go_quiet (first
      | (go_at_call 106;exact Calls.quiet_of_same (q_l14Count (t:=s) z16q36))
      | (go_at_call 106;exact Calls.quiet_of_same (q_l14Count (t:=t) z16q36)))
     go_wp2;go_ret;exact ⟨ret_bool HR.out.symm,extX⟩
    .have HR:=Zh (hy.out.step HZ.out fun _=>oft_ge hc);go_wp2_with fail
     go_quiet (first
      | (go_at_call 106;exact Calls.quiet_of_same (q_l14Count (t:=s) z16q36))
      | (go_at_call 106;exact Calls.quiet_of_same (q_l14Count (t:=t) z16q36)))
     go_wp2;go_roundw
     case rel=>exact ⟨k+1,by go_num,Zo,HR,extX⟩
     case measure=>exact mq36
   .have HR:=Zh (hy.out.step HZ.out fun h=>absurd h h0);have hb0:decide (z < 0)=false:=by simpa using h0
    go_wp2_with fail;go_quiet (fail)
    go_wp2;go_roundw
    case rel=>exact ⟨k+1,by go_num,Zo,HR,extX⟩
    case measure=>exact mq36
  .go_wp2;go_ret;exact ⟨ret_bool (hy.out.done (by rw [HL.out];omega)).symm,extX⟩
def AllFrom (p:Nat→Oper→Prop):Nat→List Oper→Prop
 | _,[]=>True
 | k,o :: l=>p k o∧AllFrom p (k+1) l
theorem AllFrom.get {p:Nat→Oper→Prop}:∀ {l:List Oper} {k i:Nat} {o:Oper},AllFrom p k l→l[i]?=some o→p (k+i) o
 | [],_,_,_,_,h=>by simp at h
 | o :: l,k,0,o',h,hi=>by simp at hi;subst hi;simpa using h.1
 | o :: l,k,i+1,o',h,hi=>by
  have:=AllFrom.get h.2 (by simpa using hi)
  rwa [Nat.add_assoc,Nat.add_comm 1 i] at this
def lexOk (l:List Oper):Bool:=l.zipIdx.all fun (o,i)=>o.after.all fun e=>!Region.binds .any e || decide (e.on < i)
section
variable {P:Program} {ops:Array Oper} {Q:Exit→Act→World→Prop}
def StepInv (P:Program) (ops:Array Oper) (Q:Exit→Act→World→Prop) (I:(Nat→Bool)→Act→World→Prop) (i:Nat) (o:Oper):Prop:=
 ∀ (S:Nat→Bool) (a:Act) (w:World) (K:Act→World→Prop),(∀ e∈o.after,Region.binds .any e=true→S e.on=true)→I S a w→(∀ a w,I (fun j=>j == i || S j) a w→K a w)→S i=false →
  if Region.wanted o (yielded ops a.tmps)=true then o.wp P a w K Q else K (a.put o.dst undef) w
theorem StepInv.fresh {I:(Nat→Bool)→Act→World→Prop} {i:Nat} {o:Oper} (hg:o.guard=none)
 (h:∀ (S:Nat→Bool) (a:Act) (w:World) (K:Act→World→Prop),(∀ e∈o.after,Region.binds .any e=true→S e.on=true)→I S a w→(∀ a w,I (fun j=>j == i || S j) a w→K a w)→S i=false→o.wp P a w K Q):StepInv P ops Q I i o:=by
 intro S a w K h1 h2 h3 h4;rw [if_pos (by simp [Region.wanted,hg])];exact h S a w K h1 h2 h3 h4
theorem lex_ready {l:List Oper} (h:lexOk l=true) {i:Nat} {o:Oper} (ho:l[i]?=some o):∀ e∈o.after,Region.binds .any e=true→e.on < i:=by
 intro e he hb;unfold lexOk at h;rw [List.all_eq_true] at h;have hm:(o,i)∈l.zipIdx:=by
  rw [List.mem_iff_getElem?];exact ⟨i,by simp [List.getElem?_zipIdx,ho]⟩
 have:=h _ hm;simp only [Array.all_eq_true_iff_forall_mem] at this;have:=this e he;rw [hb] at this
 simpa using this
theorem wpAny_inv (hlex:lexOk ops.toList=true) (I:(Nat→Bool)→Act→World→Prop)
 (hs:AllFrom (StepInv P ops Q I) 0 ops.toList) (h1:∀ S a w,(∀ i,i < ops.size→S i=true)→I S a w→Q .normal a w) :
 ∀ (fuel:Nat) (listed:Array Bool) (a:Act) (w:World),listed.size=ops.size→((List.range ops.size).filter fun i=>!listed.getD i true).length≤fuel →
  I (fun i=>listed.getD i true) a w→wpAny P .any ops Q fuel listed a w:=by
 have hdone:∀ (listed:Array Bool) (a:Act) (w:World),listed.size=ops.size→Region.ready .any ops listed=[]→I (fun i=>listed.getD i true) a w→Q .normal a w:=by
  intro listed a w hsz hr hI;refine h1 _ a w ?_ hI;intro i
  induction i using Nat.strongRecOn with
  | _ i ih=>
   intro hi;rcases hb:listed.getD i true with _ | _
   .exfalso
    have ho:ops[i]?=some ops[i]:=Array.getElem?_eq_getElem hi;have hmem:i∈Region.ready .any ops listed:=by
     unfold Region.ready;rw [List.mem_filter];refine ⟨List.mem_range.2 hi,?_⟩;simp only [hb,Bool.not_false,Bool.true_and,ho,Option.map_some,Option.getD_some];rw [Array.all_eq_true_iff_forall_mem];intro e he;rcases hbd:Region.binds .any e with _ | _
     .simp
     have hlt:=lex_ready hlex (i:=i) (o:=ops[i]) (by simp [hi]) e he hbd;have:=ih e.on hlt Zo;have h2:listed.getD e.on false=true:=by
      have hl:e.on < listed.size:=by omega
      simp only [Array.getD,hl,dif_pos] at this ⊢;exact this
     simp [h2]
    rw [hr] at hmem;cases hmem
   .rfl
 intro fuel
 induction fuel with
 | zero=>
  intro listed a w hsz hc hI;have hr:Region.ready .any ops listed=[]:=by
   have h0:((List.range ops.size).filter fun i=>!listed.getD i true)=[]:=List.eq_nil_of_length_eq_zero Zo;unfold Region.ready;rw [List.filter_eq_nil_iff] at h0 ⊢;intro i hi;have:=h0 i hi;simp only [Bool.not_eq_true] at this;rw [this];simp
  exact ⟨hr,hdone listed a w hsz hr hI⟩
 | succ fuel ih=>
  intro listed a w hsz hc hI;refine ⟨fun hr=>hdone listed a w hsz hr hI,fun i hi=>?_⟩;unfold Region.ready at hi;rw [List.mem_filter] at hi;obtain ⟨hir,hi2⟩:=hi;have hlt:i < ops.size:=List.mem_range.1 hir;have ho:ops[i]?=some ops[i]:=Array.getElem?_eq_getElem hlt;rw [ho] at hi2;simp only [Option.map_some,Option.getD_some,Bool.and_eq_true] at hi2;have hstep:=AllFrom.get hs (i:=i) (o:=ops[i]) (by simp [hlt]);rw [Nat.zero_add] at hstep;refine wpOp_step ho fun K' hK'=>?_;refine hstep _ a w K' ?_ hI ?_ (by simpa using hi2.1)
  .intro e he hb;have:=hi2.2;rw [Array.all_eq_true_iff_forall_mem] at this;have h3:=this e he;rw [hb] at h3;simp only [Bool.not_true,Bool.false_or] at h3;have hl:e.on < listed.size:=by
    rcases Nat.lt_or_ge e.on listed.size with h | h
    .exact h
    .simp [Array.getD,Nat.not_lt.2 h] at h3
   simp only [Array.getD,hl,dif_pos] at h3 ⊢;exact h3
  .intro a' w' hI';refine hK' _ _ (ih _ a' w' (by simpa using hsz) ?_ ?_)
   .have hset:((List.range ops.size).filter fun j=>!(listed.setIfInBounds i true).getD j true)=((List.range ops.size).filter fun j=>!listed.getD j true).filter (fun j=>!(j == i)):=by
     rw [List.filter_filter]
     congr 1
     funext j
     by_cases hji:j=i
     .subst hji;have hl:j < listed.size:=by omega
      simp [Array.getD,hl]
     .have:(listed.setIfInBounds i true).getD j true=listed.getD j true:=by
       simp only [Array.getD,Array.size_setIfInBounds];split
       .rename_i hj;exact Array.getElem_setIfInBounds_ne hj (Ne.symm hji)
       .rfl
      rw [this];simp [hji]
    rw [hset];have hin:i∈(List.range ops.size).filter fun j=>!listed.getD j true:=by
     rw [List.mem_filter];exact ⟨hir,hi2.1⟩
    have:=List.length_filter_lt_length_iff_exists (p:=fun j=>!(j == i)) (l:=(List.range ops.size).filter fun j=>!listed.getD j true);have h4:=this.2 ⟨i,hin,by simp⟩;omega
   .have:(fun j=>(listed.setIfInBounds i true).getD j true)=(fun j=>j == i || listed.getD j true):=by
     funext j
     by_cases hji:j=i
     .subst hji;have hl:j < listed.size:=by omega
      simp [Array.getD,hl]
     .have:(listed.setIfInBounds i true).getD j true=listed.getD j true:=by
       simp only [Array.getD,Array.size_setIfInBounds];split
       .rename_i hj;exact Array.getElem_setIfInBounds_ne hj (Ne.symm hji)
       .rfl
      rw [this];simp [hji]
    rw [this];exact hI'
theorem wp_region_inv {id:Nat} {l:List Oper} {a:Act} {w:World} (hm:P.follows .mixedOrders=true) (hlex:lexOk l=true) (I:Act→(Nat→Bool)→Act→World→Prop)
 (h0:∀ S,(∀ i,i < l.length→S i=false)→I a S a w.drew) (hs:AllFrom (StepInv P l.toArray Q (I a)) 0 l) (h1:∀ S a' w',(∀ i,i < l.length→S i=true)→I a S a' w'→Q .normal a' w') :
 (Code.region id l.toArray true).wp P Q a w:=by
 refine wp_region_any hm (wpAny_inv (by simpa using hlex) (I a) (by simpa using hs) (by simpa using h1) _ _ a _ (by simp) ?_ (h0 _ ?_))
 .exact Nat.le_trans (List.length_filter_le _ _) (by simp)
 .intro i hi;simp [Array.getD,hi]
end

