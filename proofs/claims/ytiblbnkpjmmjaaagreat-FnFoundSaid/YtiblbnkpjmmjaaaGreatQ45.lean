/- -/
import Derived.Test.YtiblbnkpjmmjaaaGreatQ44
set_option maxRecDepth 100000
set_option maxHeartbeats 16000000
set_option linter.all false
namespace Go.Proofs.YtiblbnkpjmmjaaaGreat
open Go.RowKit
theorem mq45 {p:Prop} (h:p:=by simp only [intOf];omega):p:=h
theorem z15q45 {p:Prop} (h:p:=by (first | (first | (with_reducible exact RdI.mk (RI.ext (Hid.out (by with_reducible assumption)) extX)) | (with_reducible exact RdI.ext (by with_reducible assumption) extX)) | (with_reducible exact RdPs.mk (RP.ext (Hid.out (by with_reducible assumption)) extX)) | (with_reducible exact RdPs.ext (by with_reducible assumption) extX) | (with_reducible exact RdPl.mk (by (first | (with_reducible exact RI.ext (Hid.out (by with_reducible assumption)) extX)))) | (with_reducible exact RdPl.ext (by with_reducible assumption) extX) | (with_reducible exact RdSig.mk (by (first | (with_reducible exact RI.ext (Hid.out (by with_reducible assumption)) extX)))) | (with_reducible exact RdSig.ext (by with_reducible assumption) extX))):p:=h
theorem c_sStrictIn {v0 v1:Value} {ar:List Int} {ps:List Pl} {w:World} (h0:RdSig w v0 ar) (h1:RdPs w v1 ps) :
 Calls Tryz.prog 39 #[v0,v1] w fun e w'=>e=.returned (.bool (strictIn ar ps))∧Ext w w':=by
 obtain ⟨A,n,c,rfl,ha⟩:=h0;obtain ⟨B,m,d,rfl,hb⟩:=h1;have hm:=hb.le;have hl:=hb.len;have HA:=Zh ha;have HB:=Zh hb;have HL:=Zh hl;clear ha hb hl;cases hok:polysOk ar ps with
 | false=>
  have HR:=Zh (strictIn_no hok);go_enter Tryz.func39,Tryz.ntmps39;go_wp2_with (go_at_call 60;(with_reducible refine (c_sPolysOk (ar:=ar) (ps:=ps) z15q45 z15q45).mono ?_);rintro e w1 ⟨rfl,hE1⟩;have hz1:=Zs hE1;obtain ⟨hc1,hf1⟩:=bcell hE1)
  go_ret;exact ⟨ret_bool HR.out.symm,extX⟩
 | true=>
  have HOK:=Zh hok;go_enter Tryz.func39,Tryz.ntmps39;go_wp2_with (go_at_call 60;(with_reducible refine (c_sPolysOk (ar:=ar) (ps:=ps) z15q45 z15q45).mono ?_);rintro e w1 ⟨rfl,hE1⟩;have hz1:=Zs hE1;obtain ⟨hc1,hf1⟩:=bcell hE1)
  go_loopw [5,6] (fun i _ wr=>∃ k:Nat,i=.int .i64 k∧k≤m∧Hid (∀ (j:Nat) (p:Pl),j < k→ps[j]?=some p→∀ x∈p.cf,1≤x)∧Ext w1 wr) (fun i _ _=>m - (intOf i).toNat)
  case atStart=>exact ⟨0,rfl,Nat.zero_le _,Zh (fun j p hj=>Zo),extX⟩
  case round=>
   obtain ⟨k,rfl,hk,hp,hE2⟩:=hrel;have hw:Ext w wr:=extX;by_cases hlt:k < m
   .obtain ⟨b,o,p,A',m1,c1,rfl,hy,hd1,hd2,hri⟩:=RP.at_ (RP.ext HB.out hw) hlt;have hm1:=hri.le;have HY:=Zh hy;have HRI:=Zh hri;have HL1:=Zh hri.len;clear hy hri;go_wp2;obtain ⟨wo,rfl⟩:∃ wo:World,wo=wr:=⟨_,rfl⟩;go_loopw [6] (fun i wr=>∃ q:Nat,i=.int .i64 q∧q≤m1∧Hid (∀ (j:Nat) (x:Int),j < q→p.cf[j]?=some x→1≤x)∧Ext wo wr) (fun i _=>m1 - (intOf i).toNat)
    case atStart=>exact ⟨0,rfl,Nat.zero_le _,Zh (fun j x hj=>Zo),extX⟩
    case round=>
     obtain ⟨q,rfl,hq,hp2,hE3⟩:=hrel;have hd2':wr.cell? ⟨b,o+k * 2+1,none⟩=some (.slice A' m1 c1):=Ext.keep hE3 hd2;by_cases hlt2:q < m1
     .obtain ⟨b2,o2,y,rfl,hy2,hcy⟩:=RI.at_ (RI.ext HRI.out (extX:Ext wo wr)) hlt2;have HY2:=Zh hy2;clear hy2;by_cases h4:y < 1
      .have HR:=Zh (strictIn_f (ar:=ar) (strict_bad HY.out HY2.out h4));go_wp2;go_ret;exact ⟨ret_bool HR.out.symm,extX⟩
      .have HR:=Zh (uptoG_succ (P:=fun x:Int=>1≤x) hp2.out HY2.out Zo);go_wp2;go_roundw
       case rel=>exact ⟨q+1,by go_num,Zo,HR,extX⟩
       case measure=>exact mq45
     .have HR:=Zh (uptoG_succ (P:=fun p:Pl=>∀ x∈p.cf,1≤x) hp.out HY.out (uptoG_all hp2.out (by rw [HL1.out];omega)));go_wp2;go_roundw
      case rel=>exact ⟨k+1,by go_num,Zo,HR,extX⟩
      case measure=>exact mq45
   .go_wp2;go_ret;exact ⟨ret_bool (strictIn_t HOK.out (strict_all hp.out (by rw [HL.out];omega))).symm,extX⟩
noncomputable def cmpB (d:Bool) (o o':Option Pl):Bool:=if d then cmpLess o o' else cmpMost o o'
theorem less_most {o o':Option Pl} (h:cmpLess o o'=true):cmpMost o o'=true:=by
 cases o with
 | none=>cases h
 | some a=>
  cases o' with
  | none=>cases h
  | some b=>
   simp only [cmpLess,cmpMost,Bool.and_eq_true,decide_eq_true_eq] at h ⊢;exact ⟨h.1,Zo⟩
noncomputable def ruB (d:Bool) (ar:List Int) (ps:List Pl) (r:Ru):Bool:=cmpB d (form ps (tmOf ar r.r)) (form ps (tmOf ar r.l))
def PolyAll (d:Bool) (s:Sy) (ps:List Pl):Prop:=∀ (j:Nat) (r:Ru),s.rs[j]?=some r→ruB d s.ar ps r=true
noncomputable def polyAll (d:Bool) (s:Sy) (ps:List Pl):Bool:=@decide (PolyAll d s ps) (Classical.propDecidable _)
theorem polyAll_f {d:Bool} {s:Sy} {ps:List Pl} {j:Nat} {r:Ru} (hr:s.rs[j]?=some r) (h:ruB d s.ar ps r=false):polyAll d s ps=false:=by
 simp only [polyAll,decide_eq_false_iff_not];exact fun a=>by have:=a j r hr;rw [h] at this;cases this
theorem polyAll_t {d:Bool} {s:Sy} {ps:List Pl} (h:∀ (j:Nat) (r:Ru),j < s.rs.length→s.rs[j]?=some r→ruB d s.ar ps r=true):polyAll d s ps=true:=by
 simp only [polyAll,decide_eq_true_eq];exact fun j r hr=>h j r (List.getElem?_eq_some_iff.1 hr).1 hr
theorem strictIn_polys {ar:List Int} {ps:List Pl} (h:strictIn ar ps=true):PolysP ar ps:=by
 simp only [strictIn,decide_eq_true_eq] at h;exact h.1
noncomputable def polyOrients (s:Sy) (ps:List Pl):Bool:=sysOk s && strictIn s.ar ps && polyAll true s ps
theorem polyArgs_t {ar:List Int} {ps:List Pl} {s t:List Int} (hp:PolysP ar ps) (hs:TermP ar s) (ht:TermP ar t):polyArgs ar ps s t=true:=polyArgs_iff.2 ⟨polysOk_iff.2 hp,termOk_iff.2 hs,termOk_iff.2 ht⟩
theorem ret_tup {a b c d:Bool} (h1:a=c) (h2:b=d):Ending.returned (.tuple #[.bool a,.bool b])=.returned (.tuple #[.bool c,.bool d]):=by rw [h1,h2]
theorem c_compareForms' {v0 v1 v2 v3:Value} {ar:List Int} {ps:List Pl} {s t:List Int} {w:World} {m l:Bool} (hm:cmpMost (form ps (tmOf ar s)) (form ps (tmOf ar t))=m) (hl:cmpLess (form ps (tmOf ar s)) (form ps (tmOf ar t))=l) (h0:RdSig w v0 ar) (h1:RdPs w v1 ps) (h2:RdI w v2 s) (h3:RdI w v3 t) (hp:PolysP ar ps) (hs:TermP ar s) (ht:TermP ar t) :
 Calls Tryz.prog 50 #[v0,v1,v2,v3] w fun e w'=>e=.returned (.tuple #[.bool m,.bool l])∧Ext w w':=
 (c_compareForms h0 h1 h2 h3 hp hs ht).mono fun _ _ ⟨he,hw⟩=>⟨he.trans (ret_tup hm hl),hw⟩
theorem c_polyRules {v0 v1:Value} {d:Bool} {s:Sy} {ps:List Pl} {w:World} (h0:RdSyC w v0 s) (h1:RdPs w v1 ps) (hs:SysP s) (hP:PolysP s.ar ps) :
 Calls Tryz.prog 29 #[v0,v1,.bool d] w fun e w'=>e=.returned (.bool (polyAll d s ps))∧Ext w w':=by
 obtain ⟨A,n,c,B,m,d0,rfl,ha,hb⟩:=h0;obtain ⟨S,p,e,rfl,hps⟩:=h1;have hm:=hb.le;have HL:=Zh hb.len;have HA:=Zh ha;have HB:=Zh hb;have HPS:=Zh hps;have HS:=Zh hs;have HP:=Zh hP;clear ha hb hps hs hP;go_enter Tryz.func29,Tryz.ntmps29;go_wp2_with fail;obtain ⟨wo,hwo⟩:∃ wo,wo=w.alloc (.cells #[.slice A n c,.slice B m d0] 32):=⟨_,rfl⟩;have hw0:wo.cell? ⟨w.heap.size,0,none⟩=some (.slice A n c):=by rw [hwo];simp [go_sem]
 have hEo:Ext w wo:=by rw [hwo];exact extX
 rw [← hwo];clear hwo;go_loopw [14] (fun i wr=>∃ k:Nat,i=.int .i64 k∧k≤m∧Hid (∀ (j:Nat) (r:Ru),j < k→s.rs[j]?=some r→ruB d s.ar ps r=true)∧Ext wo wr) (fun i _=>m - (intOf i).toNat)
 case atStart=>exact ⟨0,rfl,Nat.zero_le _,Zh fun j y hj=>Zo,Ext.refl _⟩
 case round=>
  obtain ⟨k,rfl,hk,hp,hE2⟩:=hrel;have hw:Ext w wr:=Ext.trans hEo hE2;have hr0:wr.cell? ⟨w.heap.size,0,none⟩=some (.slice A n c):=Ext.keep hE2 hw0;have hws0:w.heap.size < wr.heap.size:=World.block_lt_of_cell? wr _ hr0;by_cases hlt:k < m
  .obtain ⟨b,o,r,A1,m1,c1,A2,m2,c2,rfl,hx,hd1,hd2,hr1,hr5,hcap1,hcap2⟩:=RR.at_ (RR.ext HB.out hw) hlt;have HX:=Zh hx;have HR1:=Zh hr1;have HR2:=Zh hr5;have hRP:=HS.out.2.2 k r hx;have HT1:=Zh hRP.1;have HT2:=Zh hRP.2.1;clear hx hr1 hr5 hcap1 hcap2 hRP;have hlt':(k:Int) < (m:Int):=by omega
   have hHP:=fun (hz:ruB d s.ar ps r=true)=>Zh (show ∀ (j:Nat) (r:Ru),j < k+1→s.rs[j]?=some r→ruB d s.ar ps r=true from fun j y hj e=>by
    rcases Nat.lt_or_ge j k with h' | h'
    .exact hp.out j y h' e
    .obtain rfl:j=k:=by omega
     rw [HX.out] at e;cases e;exact hz)
   have HHP:=Zh hHP;clear hHP;cases hmo:cmpMost (form ps (tmOf s.ar r.r)) (form ps (tmOf s.ar r.l)) with
   | false=>
    have hle:cmpLess (form ps (tmOf s.ar r.r)) (form ps (tmOf s.ar r.l))=false:=by
     cases h:cmpLess (form ps (tmOf s.ar r.r)) (form ps (tmOf s.ar r.l)) with
     | false=>rfl
     | true=>rw [less_most h] at hmo;cases hmo
    have HR:=Zh (polyAll_f (d:=d) HX.out (by unfold ruB cmpB;rw [hmo,hle];cases d<;>rfl));have HMO:=Zh hmo;have HLE:=Zh hle;clear hmo hle;go_wp2_with (go_at_call 50;(with_reducible refine (c_compareForms' (ar:=s.ar) (ps:=ps) (s:=r.r) (t:=r.l) HMO.out HLE.out (RdSig.mk (RI.ext HA.out extX)) (RdPs.mk (RP.ext HPS.out extX)) (RdI.mk (RI.ext HR2.out extX)) (RdI.mk (RI.ext HR1.out extX)) HP.out HT2.out HT1.out).mono ?_);rintro e w5 ⟨rfl,hE5⟩)
    go_ret;exact ⟨ret_bool HR.out.symm,extX⟩
   | true=>
    cases hle:cmpLess (form ps (tmOf s.ar r.r)) (form ps (tmOf s.ar r.l)) with
    | false=>
     have HMO:=Zh hmo;have HLE:=Zh hle;cases d with
     | true=>
      have HR:=Zh (polyAll_f (d:=true) HX.out (by unfold ruB cmpB;rw [hle];rfl));clear hmo hle;go_wp2_with (go_at_call 50;(with_reducible refine (c_compareForms' (ar:=s.ar) (ps:=ps) (s:=r.r) (t:=r.l) HMO.out HLE.out (RdSig.mk (RI.ext HA.out extX)) (RdPs.mk (RP.ext HPS.out extX)) (RdI.mk (RI.ext HR2.out extX)) (RdI.mk (RI.ext HR1.out extX)) HP.out HT2.out HT1.out).mono ?_);rintro e w5 ⟨rfl,hE5⟩)
      go_ret;exact ⟨ret_bool HR.out.symm,extX⟩
     | false=>
      have HQ:=HHP.out (by unfold ruB cmpB;rw [hmo];rfl);clear hmo hle;go_wp2_with (go_at_call 50;(with_reducible refine (c_compareForms' (ar:=s.ar) (ps:=ps) (s:=r.r) (t:=r.l) HMO.out HLE.out (RdSig.mk (RI.ext HA.out extX)) (RdPs.mk (RP.ext HPS.out extX)) (RdI.mk (RI.ext HR2.out extX)) (RdI.mk (RI.ext HR1.out extX)) HP.out HT2.out HT1.out).mono ?_);rintro e w5 ⟨rfl,hE5⟩)
      go_roundw
      case rel=>exact ⟨k+1,by go_num,Zo,HQ,extX⟩
      case measure=>exact mq45
    | true=>
     have HQ:=HHP.out (by unfold ruB cmpB;rw [hmo,hle];cases d<;>rfl);have HMO:=Zh hmo;have HLE:=Zh hle;clear hmo hle;cases d with
     | true=>
      go_wp2_with (go_at_call 50;(with_reducible refine (c_compareForms' (ar:=s.ar) (ps:=ps) (s:=r.r) (t:=r.l) HMO.out HLE.out (RdSig.mk (RI.ext HA.out extX)) (RdPs.mk (RP.ext HPS.out extX)) (RdI.mk (RI.ext HR2.out extX)) (RdI.mk (RI.ext HR1.out extX)) HP.out HT2.out HT1.out).mono ?_);rintro e w5 ⟨rfl,hE5⟩)
      go_roundw
      case rel=>exact ⟨k+1,by go_num,Zo,HQ,extX⟩
      case measure=>exact mq45
     | false=>
      go_wp2_with (go_at_call 50;(with_reducible refine (c_compareForms' (ar:=s.ar) (ps:=ps) (s:=r.r) (t:=r.l) HMO.out HLE.out (RdSig.mk (RI.ext HA.out extX)) (RdPs.mk (RP.ext HPS.out extX)) (RdI.mk (RI.ext HR2.out extX)) (RdI.mk (RI.ext HR1.out extX)) HP.out HT2.out HT1.out).mono ?_);rintro e w5 ⟨rfl,hE5⟩)
      go_roundw
      case rel=>exact ⟨k+1,by go_num,Zo,HQ,extX⟩
      case measure=>exact mq45
  .have HR:=Zh (polyAll_t (d:=d) (s:=s) (ps:=ps) fun j r hj e=>hp.out j r (by rw [HL.out] at hj;omega) e);go_wp2;go_ret;exact ⟨ret_bool HR.out.symm,extX⟩
theorem c_sPolyLess' {v0 v1 v2 v3:Value} {ar:List Int} {ps:List Pl} {s t:List Int} {w:World} {b:Bool} (hb:cmpLess (form ps (tmOf ar s)) (form ps (tmOf ar t))=b) (hp:PolysP ar ps) (hs:TermP ar s) (ht:TermP ar t) (h0:RdSig w v0 ar) (h1:RdPs w v1 ps) (h2:RdIc w v2 s) (h3:RdIc w v3 t) :
 Calls Tryz.prog 40 #[v0,v1,v2,v3] w fun e w'=>e=.returned (.bool b)∧Ext w w':=
 (c_sPolyLess h0 h1 h2 h3).mono fun _ _ ⟨he,hw⟩=>⟨he.trans (ret_bool (by rw [polyArgs_t hp hs ht,hb];rfl)),hw⟩
theorem z16q45 {p:Prop} (h:p:=by (first | (first | (with_reducible exact RdI.mk (RI.ext (Hid.out (by with_reducible assumption)) extX)) | (with_reducible exact RdI.ext (by with_reducible assumption) extX)) | (with_reducible exact RdSyK.mk (by (first | (with_reducible exact RI.ext (Hid.out (by with_reducible assumption)) extX))) (RR.ext (Hid.out (by with_reducible assumption)) extX)) | (with_reducible exact RdSyK.ext (by with_reducible assumption) extX) | (with_reducible exact RdPs.mk (RP.ext (Hid.out (by with_reducible assumption)) extX)) | (with_reducible exact RdPs.ext (by with_reducible assumption) extX) | (with_reducible exact RdSig.mk (by (first | (with_reducible exact RI.ext (Hid.out (by with_reducible assumption)) extX)))) | (with_reducible exact RdSig.ext (by with_reducible assumption) extX))):p:=h
theorem c_sPolyOrients {v0 v1:Value} {s:Sy} {ps:List Pl} {w:World} (h0:RdSyC w v0 s) (h1:RdPs w v1 ps) :
 Calls Tryz.prog 13 #[v0,v1] w fun e w'=>e=.returned (.bool (polyOrients s ps))∧Ext w w':=by
 obtain ⟨A,n,c,B,m,d,rfl,ha,hb⟩:=h0;obtain ⟨S,p,e,rfl,hps⟩:=h1;have hm:=hb.le;have HL:=Zh hb.len;have HA:=Zh ha;have HB:=Zh hb;have HPS:=Zh hps;clear ha hb hps;cases hs:sysOk s with
 | false=>
  have HR:=Zh (show polyOrients s ps=false by unfold polyOrients;rw [hs];rfl);go_enter Tryz.func13,Tryz.ntmps13;go_wp2_with (go_at_call 30;(with_reducible refine (c_sSystemOk (s:=s) z16q45).mono ?_);rintro e w1 ⟨rfl,hE1⟩;have hz1:=Zs hE1;obtain ⟨hc1,hf1⟩:=bcell hE1)
  go_ret;exact ⟨ret_bool HR.out.symm,extX⟩
 | true=>
  cases hw:strictIn s.ar ps with
  | false=>
   have HR:=Zh (show polyOrients s ps=false by unfold polyOrients;rw [hs,hw];rfl);go_enter Tryz.func13,Tryz.ntmps13
   go_wp2_with (first
    | (go_at_call 30;(with_reducible refine (c_sSystemOk (s:=s) z16q45).mono ?_);rintro e w1 ⟨rfl,hE1⟩;have hz1:=Zs hE1;obtain ⟨hc1,hf1⟩:=bcell hE1)
    | (go_at_call 39;(with_reducible refine (c_sStrictIn (ar:=s.ar) (ps:=ps) z16q45 z16q45).mono ?_);rintro e w2 ⟨rfl,hE2⟩;have hz2:=Zs hE2;obtain ⟨hc2,hf2⟩:=bcell hE2))
   go_ret;exact ⟨ret_bool HR.out.symm,extX⟩
  | true=>
   have HF:=Zh (show polyOrients s ps=polyAll true s ps by unfold polyOrients;rw [hs,hw];rfl);have HS:=Zh (sysOk_iff.1 hs);have HP:=Zh (show PolysP s.ar ps from strictIn_polys hw);go_enter Tryz.func13,Tryz.ntmps13
   go_wp2_with (first
    | (go_at_call 30;(with_reducible refine (c_sSystemOk (s:=s) z16q45).mono ?_);rintro e w1 ⟨rfl,hE1⟩;have hz1:=Zs hE1;obtain ⟨hc1,hf1⟩:=bcell hE1)
    | (go_at_call 39;(with_reducible refine (c_sStrictIn (ar:=s.ar) (ps:=ps) z16q45 z16q45).mono ?_);rintro e w2 ⟨rfl,hE2⟩;have hz2:=Zs hE2;obtain ⟨hc2,hf2⟩:=bcell hE2))
   have hw0:w2.cell? ⟨w.heap.size,0,none⟩=some (.slice A n c):=Ext.keep hE2 (Ext.keep hE1 (by simp [go_sem]));have hw1:w2.cell? ⟨w.heap.size,1,none⟩=some (.slice B m d):=Ext.keep hE2 (Ext.keep hE1 (by simp [go_sem]));have hEo:Ext w w2:=Ext.trans extX (Ext.trans hE1 hE2);obtain ⟨wo,hwo⟩:∃ wo,wo=w2:=⟨_,rfl⟩;rw [← hwo] at hw0 hw1 hEo ⊢;clear hwo;go_loopw [5] (fun i wr=>∃ k:Nat,i=.int .i64 k∧k≤m∧Hid (∀ (j:Nat) (r:Ru),j < k→s.rs[j]?=some r→ruB true s.ar ps r=true)∧Ext wo wr) (fun i _=>m - (intOf i).toNat)
   case atStart=>exact ⟨0,rfl,Nat.zero_le _,Zh fun j y hj=>Zo,Ext.refl _⟩
   case round=>
    obtain ⟨k,rfl,hk,hp,hE9⟩:=hrel;have hw:Ext w wr:=Ext.trans hEo hE9;have hr0:wr.cell? ⟨w.heap.size,0,none⟩=some (.slice A n c):=Ext.keep hE9 hw0;have hr1':wr.cell? ⟨w.heap.size,1,none⟩=some (.slice B m d):=Ext.keep hE9 hw1;by_cases hlt:k < m
    .obtain ⟨b,o,r,A1,m1,c1,A2,m2,c2,rfl,hx,hd1,hd2,hr1,hr5,hcap1,hcap2⟩:=RR.at_ (RR.ext HB.out hw) hlt;have HX:=Zh hx;have hEd:Ext wr wr.drew:=(Ext.refl wr).drew;have hEwd:Ext w wr.drew:=hw.drew;have HR1:=Zh (hr1.ext hEd);have HR2:=Zh (hr5.ext hEd);have HC1:=Zh (hcap1 rfl);have HC2:=Zh (hcap2 rfl);have hRP:=HS.out.2.2 k r hx;have HT1:=Zh hRP.1;have HT2:=Zh hRP.2.1;clear hx hr1 hr5 hcap1 hcap2 hRP;have hlt':(k:Int) < (m:Int):=by omega
     cases hz:cmpLess (form ps (tmOf s.ar r.r)) (form ps (tmOf s.ar r.l)) with
     | false=>
      have HR:=Zh (polyAll_f (d:=true) HX.out (show ruB true s.ar ps r=false by unfold ruB cmpB;exact hz));have HZ:=Zh hz;clear hz;go_wp2_with fail;go_still_tail 15,Zk
      change wpList _ _ _ _ _ wr.drew
      go_wp2_with (go_at_call 40;(with_reducible refine (c_sPolyLess' HZ.out HP.out HT2.out HT1.out (RdSig.mk (RI.ext HA.out hEwd)) (RdPs.mk (RP.ext HPS.out hEwd)) (RdIc.mk HC2.out HR2.out) (RdIc.mk HC1.out HR1.out)).mono ?_);rintro e w5 ⟨rfl,hE5⟩)
      go_ret;exact ⟨ret_bool (HR.out.symm.trans HF.out.symm),Ext.trans hEwd hE5⟩
     | true=>
      have HQ:=Zh (show ∀ (j:Nat) (r:Ru),j < k+1→s.rs[j]?=some r→ruB true s.ar ps r=true from fun j y hj e=>by
       rcases Nat.lt_or_ge j k with h' | h'
       .exact hp.out j y h' e
       .obtain rfl:j=k:=by omega
        rw [HX.out] at e;cases e;exact hz)
      have HZ:=Zh hz;clear hz;go_wp2_with fail;go_still_tail 15,Zk
      change wpList _ _ _ _ _ wr.drew
      go_wp2_with (go_at_call 40;(with_reducible refine (c_sPolyLess' HZ.out HP.out HT2.out HT1.out (RdSig.mk (RI.ext HA.out hEwd)) (RdPs.mk (RP.ext HPS.out hEwd)) (RdIc.mk HC2.out HR2.out) (RdIc.mk HC1.out HR1.out)).mono ?_);rintro e w5 ⟨rfl,hE5⟩)
      go_roundw
      case rel=>exact ⟨k+1,by go_num,Zo,HQ,Ext.trans hE9 (Ext.trans hEd hE5)⟩
      case measure=>exact mq45
    .have HR:=Zh (polyAll_t (d:=true) (s:=s) (ps:=ps) fun j r hj e=>hp.out j r (by rw [HL.out] at hj;omega) e);go_wp2;go_ret;exact ⟨ret_bool (HR.out.symm.trans HF.out.symm),extX⟩
end Go.Proofs.YtiblbnkpjmmjaaaGreat
namespace Go.Proofs.YtiblbnkpjmmjaaaGreat
def offs:List Int→Nat
 | []=>0
 | n :: ar=>(n.toNat+1)+offs ar
theorem offs_append:∀ (ls bs:List Int),offs (ls++bs)=offs ls+offs bs
 | [],bs=>by simp [offs]
 | n :: ls,bs=>by rw [List.cons_append,offs,offs,offs_append ls bs];omega
theorem take_succ_at {ar:List Int} {k:Nat} {n:Int} (h:ar[k]?=some n):ar.take (k+1)=ar.take k++[n]:=by rw [List.take_add_one,h];rfl
theorem offs_succ {ar:List Int} {k:Nat} {n:Int} (h:ar[k]?=some n):offs (ar.take (k+1))=offs (ar.take k)+(n.toNat+1):=by
 rw [take_succ_at h,offs_append];simp [offs]
theorem offs_le (ar:List Int) (k:Nat):offs (ar.take k)≤offs ar:=by
 conv=>rhs;rw [← List.take_append_drop k ar]
 rw [offs_append];omega
theorem offs_bd {ar:List Int} (h:∀ n∈ar,0≤n∧n≤3):offs ar≤4 * ar.length:=by
 induction ar with
 | nil=>simp [offs]
 | cons n ar ih=>
  have h1:=h n List.mem_cons_self;have h2:=ih fun m hm=>h m (List.mem_cons_of_mem _ hm);rw [offs,List.length_cons];omega
def lowL:List Int→List Int
 | []=>[]
 | n :: ar=>(0 :: List.replicate n.toNat 1)++lowL ar
theorem lowL_append:∀ (ls bs:List Int),lowL (ls++bs)=lowL ls++lowL bs
 | [],bs=>rfl
 | n :: ls,bs=>by rw [List.cons_append,lowL,lowL,lowL_append ls bs,List.append_assoc]
theorem lowL_len:∀ (ar:List Int),(lowL ar).length=offs ar
 | []=>rfl
 | n :: ar=>by rw [lowL,offs,List.length_append,lowL_len ar];simp
theorem lowL_succ {ar:List Int} {k:Nat} {n:Int} (h:ar[k]?=some n):lowL (ar.take (k+1))=lowL (ar.take k)++(0 :: List.replicate n.toNat 1):=by
 rw [take_succ_at h,lowL_append];simp [lowL]
def polysOf:List Int→List Int→List Pl
 | [],_=>[]
 | n :: ar,xs=>⟨xs.getD 0 0,(xs.drop 1).take n.toNat⟩ :: polysOf ar (xs.drop (n.toNat+1))
theorem polysOf_append:∀ (ls bs xs:List Int),polysOf (ls++bs) xs=polysOf ls xs++polysOf bs (xs.drop (offs ls))
 | [],bs,xs=>by simp [polysOf,offs]
 | n :: ls,bs,xs=>by
  rw [List.cons_append,polysOf,polysOf,polysOf_append ls bs,offs,List.drop_drop];rfl
theorem polysOf_len:∀ (ar xs:List Int),(polysOf ar xs).length=ar.length
 | [],_=>rfl
 | n :: ar,xs=>by rw [polysOf,List.length_cons,polysOf_len ar,List.length_cons]
theorem polysOf_succ {ar xs:List Int} {k:Nat} {n:Int} (h:ar[k]?=some n):polysOf (ar.take (k+1)) xs=polysOf (ar.take k) xs++[⟨xs.getD (offs (ar.take k)) 0,(xs.drop (offs (ar.take k)+1)).take n.toNat⟩]:=by
 rw [take_succ_at h,polysOf_append]
 congr 1
 rw [polysOf,polysOf]
 congr 2
 .rw [List.getD_eq_getElem?_getD,List.getD_eq_getElem?_getD,List.getElem?_drop];rfl
 .rw [List.drop_drop]
theorem Btw.split:∀ {l1 l2 h1 h2 xs:List Int},h1.length=l1.length→Btw xs (l1++l2) (h1++h2)→Btw (xs.take l1.length) l1 h1∧Btw (xs.drop l1.length) l2 h2
 | [],l2,[],h2,xs,_,h=>⟨by simp [Btw],by simpa using h⟩
 | l :: l1,l2,h :: h1,h2,[],e,hb=>by simp [Btw] at hb
 | l :: l1,l2,h :: h1,h2,x :: xs,e,hb=>by
  have hb':(l≤x∧x≤h)∧Btw xs (l1++l2) (h1++h2):=hb;obtain ⟨k1,k2⟩:=Btw.split (by simpa using e) hb'.2;exact ⟨⟨hb'.1,k1⟩,k2⟩
 | [],_,_ :: _,_,_,e,_=>by simp at e
 | _ :: _,_,[],_,_,e,_=>by simp at e
theorem polys_between {most:Int} (h3:most≤3):∀ {ar xs:List Int},(∀ n∈ar,0≤n)→Btw xs (lowL ar) (List.replicate (offs ar) most)→∀ (j:Nat) (p:Pl) (n:Int),(polysOf ar xs)[j]?=some p→ar[j]?=some n→(p.cf.length:Int)=n∧(0≤p.c∧p.c≤9)∧∀ x∈p.cf,1≤x∧x≤9
 | [],xs,_,_,j,p,n,hp,_=>by simp [polysOf] at hp
 | m :: ar,xs,h0,hb,j,p,n,hp,hn=>by
  rw [lowL,offs,← List.replicate_append_replicate] at hb;obtain ⟨k1,k2⟩:=Btw.split (by simp) hb;have hm:=h0 m List.mem_cons_self;rw [List.length_cons,List.length_replicate] at k1 k2;cases j with
  | zero=>
   rw [polysOf] at hp;cases hp;cases hn;have hlen:=k1.len.1;rw [List.length_take,List.length_cons,List.length_replicate] at hlen;refine ⟨?_,?_,fun x hx=>?_⟩
   .show (((xs.drop 1).take m.toNat).length:Int)=m;rw [List.length_take,List.length_drop];omega
   .show 0≤xs.getD 0 0∧xs.getD 0 0≤9;have h1:(xs.take (m.toNat+1))[0]?=some (xs.getD 0 0):=by
     rw [List.getElem?_take,if_pos Zo,List.getD_eq_getElem?_getD,List.getElem?_eq_getElem Zo];rfl
    obtain ⟨l,h,e1,e2,e3,e4⟩:=Btw.at_ k1 h1;simp at e1;rw [List.getElem?_replicate,if_pos Zo] at e2;cases e2;omega
   .obtain ⟨i,hi⟩:=List.mem_iff_getElem?.1 hx;have hi':((xs.drop 1).take m.toNat)[i]?=some x:=hi;have him:i < m.toNat:=by
     have:=(List.getElem?_eq_some_iff.1 hi').1;rw [List.length_take] at this;omega
    rw [List.getElem?_take,if_pos him,List.getElem?_drop] at hi';have h1:(xs.take (m.toNat+1))[1+i]?=some x:=by rw [List.getElem?_take,if_pos Zo,hi']
    obtain ⟨l,h,e1,e2,e3,e4⟩:=Btw.at_ k1 h1;rw [Nat.add_comm,List.getElem?_cons_succ,List.getElem?_replicate,if_pos him] at e1;rw [List.getElem?_replicate,if_pos Zo] at e2;cases e1;cases e2;omega
  | succ j=>
   rw [polysOf,List.getElem?_cons_succ] at hp;rw [List.getElem?_cons_succ] at hn;exact polys_between h3 (fun n hn=>h0 n (List.mem_cons_of_mem _ hn)) k2 j p n hp hn
theorem lowL_btw {most:Int} (h1:1≤most):∀ (ar:List Int),Btw (lowL ar) (lowL ar) (List.replicate (offs ar) most):=by
 intro ar;refine Btw.of rfl (by rw [List.length_replicate,lowL_len]) fun k x l h e1 e2 e3=>?_;rw [e1] at e2;cases e2;rw [List.getElem?_replicate] at e3;split at e3
 .cases e3;refine ⟨Int.le_refl _,?_⟩;have:∀ (ar:List Int),∀ x∈lowL ar,x≤1:=by
   intro ar
   induction ar with
   | nil=>intro x hx;simp [lowL] at hx
   | cons n ar ih=>
    intro x hx;rw [lowL] at hx;rcases List.mem_append.1 hx with hx | hx
    .rcases List.mem_cons.1 hx with rfl | hx
     .omega
     .rw [(List.mem_replicate.1 hx).2];omega
    .exact ih x hx
  have:=this ar x (List.mem_of_getElem? e1);omega
 .cases e3
open Go.RowKit
def blkAt (vs:List Value) (j:Nat):Option Nat:=match vs[j * 2+1]? with | some (.slice (some a) _ _)=>some a.block | _=>none
def OwD (w:World) (B top:Nat) (A:Option Addr) (n c:Nat) (fs:List Pl):Prop:=
 (n≤4194304∧fs.length=n)∧∃ vs,w.ownsRow B 82 2 (.slice A n c) n vs∧(∀ (j:Nat) (f:Pl),fs[j]?=some f →
  vs[j * 2]?=some (.int .i64 f.c)∧∃ A' c',vs[j * 2+1]?=some (.slice A' f.cf.length c')∧OwI w B A' f.cf.length c' f.cf∧∀ b o s,A'=some ⟨b,o,s⟩→(Value.slice A n c).ownBlock≠some b) ∧
  ∀ j b,j < n→blkAt vs j=some b→b < top∧∀ i,i < n→i≠j→blkAt vs i≠some b
theorem OwD.q {w:World} {B top n c:Nat} {A:Option Addr} {fs:List Pl} (h:OwD w B top A n c fs):OwQ w B A n c fs:=by
 obtain ⟨h1,vs,h2,h3,_⟩:=h;exact ⟨h1,vs,h2,h3⟩
theorem OwD.nil (w:World) (B top:Nat):OwD w B top none 0 0 []:=⟨⟨Zo,rfl⟩,[],World.ownsRow_nil _ _ _ _,fun j f h=>by simp at h,fun j b h=>Zo⟩
theorem OwD.mono {w:World} {B top top' n c:Nat} {A:Option Addr} {fs:List Pl} (h:OwD w B top A n c fs) (ht:top≤top'):OwD w B top' A n c fs:=by
 obtain ⟨h1,vs,h2,h3,h4⟩:=h;exact ⟨h1,vs,h2,h3,fun j b hj hb=>by have:=h4 j b hj hb;exact ⟨Zo,this.2⟩⟩
theorem OwD.ext {w w':World} {B top n c:Nat} {A:Option Addr} {fs:List Pl} (h:OwD w B top A n c fs) (k:Ext w w'):OwD w' B top A n c fs:=by
 obtain ⟨h1,vs,ho,hf,hd⟩:=h;refine ⟨h1,vs,⟨ho.1,?_⟩,fun j f hj=>?_,hd⟩
 .rcases ho.2 with h2 | ⟨g,cap,cur,hv,hg,hh,r⟩
  .exact .inl h2
  .exact .inr ⟨g,cap,cur,hv,hg,(k.block g (Array.getElem?_eq_some_iff.1 hh).1).trans hh,r⟩
 .obtain ⟨e1,A',c',e2,e3,e4⟩:=hf j f hj;exact ⟨e1,A',c',e2,e3.ext k,e4⟩
theorem blkAt_left {vs ws:List Value} {j:Nat} (h:j * 2+1 < vs.length):blkAt (vs++ws) j=blkAt vs j:=by
 unfold blkAt;rw [List.getElem?_append_left h]
theorem OwD.push {w wx:World} {B top top' n c g cap:Nat} {A A':Option Addr} {c':Nat} {fs:List Pl} {f:Pl} {o:Obj} (h:OwD w B top A n c fs) (h1:n+1≤4194304) (hO:OwI w B A' f.cf.length c' f.cf) (hnew:∀ b o s,A'=some ⟨b,o,s⟩→top≤b∧b < top') (htop:top≤top')
 (hfar:∀ b o s,A'=some ⟨b,o,s⟩→(Value.slice A n c).ownBlock≠some b)
 (hown:∀ vs,w.ownsRow B 82 2 (.slice A n c) n vs→wx.ownsRow B 82 2 (.slice (some ⟨g,0,none⟩) (n+1) cap) (n+1) (vs++[.int .i64 f.c,.slice A' f.cf.length c']))
 (hg:(w.alloc o).grownBy wx (Value.slice A n c).ownBlock) (hat:(Value.slice A n c).ownBlock=some g∨g=(w.alloc o).heap.size) :
 OwD wx B top' (some ⟨g,0,none⟩) (n+1) cap (fs++[f]):=by
 obtain ⟨⟨hn,hl⟩,vs,ho,hf,hd⟩:=h;have hvl:vs.length=n * 2:=ho.1;have hq:=OwQ.push (w:=w) h1 hl hvl hf hO hfar (hown vs ho) hg hat
 obtain ⟨k1,us,k2,k3⟩:=hq;have hus:us=vs++[.int .i64 f.c,.slice A' f.cf.length c']:=by
  rcases k2.2 with ⟨e,_⟩ | ⟨g1,cap1,cur1,e1,_,hh1,_,_,_,ht1⟩
  .cases e
  .rcases (hown vs ho).2 with ⟨e,_⟩ | ⟨g2,cap2,cur2,e2,_,hh2,_,_,_,ht2⟩
   .cases e
   .cases e1;cases e2;rw [hh1] at hh2;cases hh2;rw [← ht1,ht2]
 subst hus;have hlast:blkAt (vs++[.int .i64 f.c,.slice A' f.cf.length c']) n=A'.map (·.block):=by
  unfold blkAt;rw [List.getElem?_append_right Zo,hvl,show n * 2+1 - n * 2=1 by omega];cases A'<;>rfl
 refine ⟨k1,_,k2,k3,fun j b hj hb=>?_⟩;rcases Nat.lt_or_ge j n with hjn | hjn
 .rw [blkAt_left Zo] at hb;have h5:=hd j b hjn hb;refine ⟨Zo,fun i hi hij=>?_⟩;rcases Nat.lt_or_ge i n with hin | hin
  .rw [blkAt_left Zo];exact h5.2 i hin hij
  .obtain rfl:i=n:=by omega
   rw [hlast];cases A' with
   | none=>simp
   | some p=>obtain ⟨b2,o2,s2⟩:=p;have:=(hnew b2 o2 s2 rfl).1;simp;omega
 .obtain rfl:j=n:=by omega
  rw [hlast] at hb;cases A' with
  | none=>cases hb
  | some p=>
   obtain ⟨b2,o2,s2⟩:=p;have h6:=hnew b2 o2 s2 rfl;have hbb:b2=b:=by simpa using hb
   subst hbb;refine ⟨h6.2,fun i hi hij=>?_⟩;rw [blkAt_left Zo];intro e;have:=(hd i b2 Zo e).1;omega
theorem ownsRow_uniq {w:World} {B n size:Nat} {e:TypeId} {v:Value} {vs us:List Value} (h:w.ownsRow B e size v n vs) (k:w.ownsRow B e size v n us):vs=us:=by
 rcases h.2 with ⟨h1,h2⟩ | ⟨g,cap,cur,h1,_,hh,_,_,_,ht⟩
 .have a:=h.1;have b:=k.1;subst h2;rw [Nat.zero_mul] at a b;rw [List.length_eq_zero_iff.1 a,List.length_eq_zero_iff.1 b]
 .rcases k.2 with ⟨k1,k2⟩ | ⟨g',cap',cur',k1,_,hh',_,_,_,ht'⟩
  .rw [h1] at k1;cases k1
  .rw [h1] at k1;cases k1;rw [hh] at hh';cases hh';rw [← ht,← ht']
theorem OwD.ob {w:World} {B top n c:Nat} {A:Option Addr} {fs:List Pl} (h:OwD w B top A n c fs):∀ k,(Value.slice A n c).ownBlock=some k→B≤k∧k < w.heap.size:=h.q.ob
theorem polys_info':(Tryz.prog.info? 82).map (fun i=>(i.zero,i.size,i.bytes))=some (some (.agg #[.int .i64 0,.slice none 0 0]),2,32):=Zk
theorem OwD.lower {w:World} {B B' top n c:Nat} {A:Option Addr} {fs:List Pl} (h:OwD w B top A n c fs) (hB:B'≤B):OwD w B' top A n c fs:=by
 obtain ⟨h1,vs,ho,hf,hd⟩:=h;refine ⟨h1,vs,⟨ho.1,?_⟩,fun j f hj=>?_,hd⟩
 .rcases ho.2 with h2 | ⟨g,cap,cur,hv,hg,r⟩
  .exact .inl h2
  .exact .inr ⟨g,cap,cur,hv,Nat.le_trans hB hg,r⟩
 .obtain ⟨e1,A',c',e2,e3,e4⟩:=hf j f hj;exact ⟨e1,A',c',e2,e3.lower hB,e4⟩

