/- -/
import Derived.Test.YtiblbnkpjmmjaaaGreatQ40
set_option maxRecDepth 100000
set_option maxHeartbeats 16000000
set_option linter.all false
namespace Go.Proofs.YtiblbnkpjmmjaaaGreat
open Go.RowKit
theorem pl_bad {n:Int} {p:Pl} (h:¬ ((p.cf.length:Int)=n∧0≤p.c∧p.c≤9)):¬ PlAt n p:=fun a=>h ⟨a.1,a.2.1⟩
theorem pl_badx {n:Int} {p:Pl} {x:Int} {k:Nat} (hx:p.cf[k]?=some x) (h:¬ (0≤x∧x≤9)):¬ PlAt n p:=fun a=>h (a.2.2 x (List.mem_of_getElem? hx))
theorem pl_ok {n:Int} {p:Pl} {k:Nat} (h1:(p.cf.length:Int)=n∧0≤p.c∧p.c≤9) (h:∀ (j:Nat) (x:Int),j < k→p.cf[j]?=some x→0≤x∧x≤9) (hk:p.cf.length≤k):PlAt n p:=
 ⟨h1.1,h1.2,fun x hx=>by
  obtain ⟨j,hj,rfl⟩:=List.mem_iff_getElem.1 hx;exact h j _ Zo (List.getElem?_eq_getElem hj)⟩
theorem upto_succ {xs:List Int} {k:Nat} {P:Int→Prop} {z:Int} (h:∀ (j:Nat) (x:Int),j < k→xs[j]?=some x→P x) (hz:xs[k]?=some z) (hp:P z):∀ (j:Nat) (x:Int),j < k+1→xs[j]?=some x→P x:=by
 intro j x hj hx;rcases Nat.lt_or_ge j k with h' | h'
 .exact h j x h' hx
 .obtain rfl:j=k:=by omega
  rw [hz] at hx;cases hx;exact hp
theorem upto2_succ {ps:List Pl} {ar:List Int} {k:Nat} {z:Pl} {m:Int} (h:∀ (j:Nat) (p:Pl) (n:Int),j < k→ps[j]?=some p→ar[j]?=some n→PlAt n p) (hz:ps[k]?=some z) (hm:ar[k]?=some m) (hp:PlAt m z) :
 ∀ (j:Nat) (p:Pl) (n:Int),j < k+1→ps[j]?=some p→ar[j]?=some n→PlAt n p:=by
 intro j x n hj hx hn;rcases Nat.lt_or_ge j k with h' | h'
 .exact h j x n h' hx hn
 .obtain rfl:j=k:=by omega
  rw [hz] at hx;rw [hm] at hn;cases hx;cases hn;exact hp
theorem mq41 {p:Prop} (h:p:=by simp only [intOf];omega):p:=h
theorem c_l15Poly {v:Value} {p:Pl} {n:Int} {w:World} (h0:RdPl w v p) :
 Calls Tryz.prog 86 #[v,.int .i64 n] w fun e w'=>e=.returned (.bool (plAt n p))∧Ext w w':=by
 obtain ⟨A,m,c,rfl,ha⟩:=h0;have hm:=ha.le;have hl:=ha.len;have HA:=Zh ha;have HL:=Zh hl;clear ha hl;by_cases h1:0≤p.c∧p.c≤9
 .have H1:=Zh h1;by_cases h2:(m:Int)=n
  .subst h2;have HOK:=Zh (show (p.cf.length:Int)=m∧0≤p.c∧p.c≤9 from ⟨by rw [HL.out],h1⟩);clear h1;go_enter Tryz.func86,Tryz.ntmps86;go_wp2_with (go_at_call 58;(with_reducible refine (s_l1In_t H1.out).mono ?_);rintro e w2 ⟨rfl,rfl⟩)
   go_loopw [5] (fun i wr=>∃ k:Nat,i=.int .i64 k∧k≤m∧Hid (∀ (j:Nat) (x:Int),j < k→p.cf[j]?=some x→0≤x∧x≤9)∧Ext (w.alloc (.cells #[.int .i64 p.c,.slice A m c] 82)) wr) (fun i _=>m - (intOf i).toNat)
   case atStart=>exact ⟨0,rfl,Nat.zero_le _,Zh (fun j x hj=>Zo),extX⟩
   case round=>
    obtain ⟨k,rfl,hk,hp,hE2⟩:=hrel;have hw:Ext w wr:=extX;have hb1:wr.cell? ⟨w.heap.size,1,none⟩=some (.slice A m c):=Ext.keep hE2 (by simp [go_sem]);by_cases hlt:k < m
    .obtain ⟨b,o,x,rfl,hx,hcx⟩:=RI.at_ (RI.ext HA.out hw) hlt;have HX:=Zh hx;clear hx;by_cases hin:0≤x∧x≤9
     .have HIN:=Zh hin;have HR:=Zh (upto_succ hp.out HX.out hin);clear hin;go_wp2_with (go_at_call 58;(with_reducible refine (s_l1In_t HIN.out).mono ?_);rintro e w2 ⟨rfl,rfl⟩)
      go_roundw
      case rel=>exact ⟨k+1,by go_num,Zo,HR,extX⟩
      case measure=>exact mq41
     .have HIN:=Zh hin;have HR:=Zh (plAt_f (pl_badx (n:=(m:Int)) HX.out hin));clear hin;go_wp2_with (go_at_call 58;(with_reducible refine (s_l1In_f HIN.out).mono ?_);rintro e w2 ⟨rfl,rfl⟩)
      go_ret;exact ⟨ret_bool HR.out.symm,extX⟩
    .go_wp2;go_ret;exact ⟨ret_bool (plAt_t (pl_ok HOK.out hp.out (by rw [HL.out];omega))).symm,extX⟩
  .have hmn:((m:Int) != n)=true:=by simpa using h2
   have HR:=Zh (plAt_f (pl_bad (n:=n) (p:=p) fun a=>h2 (by rw [← HL.out];exact a.1)));clear h1 h2;go_enter Tryz.func86,Tryz.ntmps86;go_wp2_with (go_at_call 58;(with_reducible refine (s_l1In_t H1.out).mono ?_);rintro e w2 ⟨rfl,rfl⟩)
   go_ret;exact ⟨ret_bool HR.out.symm,extX⟩
 .have H1:=Zh h1;have HR:=Zh (plAt_f (pl_bad (n:=n) (p:=p) fun a=>h1 a.2));clear h1;go_enter Tryz.func86,Tryz.ntmps86;go_wp2_with (go_at_call 58;(with_reducible refine (s_l1In_f H1.out).mono ?_);rintro e w2 ⟨rfl,rfl⟩)
  go_ret;exact ⟨ret_bool HR.out.symm,extX⟩
theorem z15q41 {p:Prop} (h:p:=by (first | (first | (with_reducible exact RdI.mk (RI.ext (Hid.out (by with_reducible assumption)) extX)) | (with_reducible exact RdI.ext (by with_reducible assumption) extX)) | (with_reducible exact RdPs.mk (RP.ext (Hid.out (by with_reducible assumption)) extX)) | (with_reducible exact RdPs.ext (by with_reducible assumption) extX) | (with_reducible exact RdPl.mk (by (first | (with_reducible exact RI.ext (Hid.out (by with_reducible assumption)) extX)))) | (with_reducible exact RdPl.ext (by with_reducible assumption) extX) | (with_reducible exact RdSig.mk (by (first | (with_reducible exact RI.ext (Hid.out (by with_reducible assumption)) extX)))) | (with_reducible exact RdSig.ext (by with_reducible assumption) extX))):p:=h
theorem c_sPolysOk {v0 v1:Value} {ar:List Int} {ps:List Pl} {w:World} (h0:RdSig w v0 ar) (h1:RdPs w v1 ps) :
 Calls Tryz.prog 60 #[v0,v1] w fun e w'=>e=.returned (.bool (polysOk ar ps))∧Ext w w':=by
 obtain ⟨A,n,c,rfl,ha⟩:=h0;obtain ⟨B,m,d,rfl,hb⟩:=h1;have hn:=ha.le;have hm:=hb.le;have hl:=ha.len;have hk2:=hb.len;have HA:=Zh ha;have HB:=Zh hb;have HL:=Zh hl;have HM:=Zh hk2;clear ha hb hl hk2;cases hok:sigOk ar with
 | false=>
  have HR:=Zh (polysOk_sig (ps:=ps) hok);go_enter Tryz.func60,Tryz.ntmps60;go_wp2_with (go_at_call 51;(with_reducible refine (c_sSigOk (ar:=ar) z15q41).mono ?_);rintro e w1 ⟨rfl,hE1⟩;have hz1:=Zs hE1;obtain ⟨hc1,hf1⟩:=bcell hE1;(try have hq1_0:w.heap.size < w1.heap.size:=Zo))
  go_ret;exact ⟨ret_bool HR.out.symm,extX⟩
 | true=>
  have HS:=Zh hok;by_cases hnm:m=n
  .subst hnm;go_enter Tryz.func60,Tryz.ntmps60;go_wp2_with (go_at_call 51;(with_reducible refine (c_sSigOk (ar:=ar) z15q41).mono ?_);rintro e w1 ⟨rfl,hE1⟩;have hz1:=Zs hE1;obtain ⟨hc1,hf1⟩:=bcell hE1;(try have hq1_0:w.heap.size < w1.heap.size:=Zo))
   go_loopw [5] (fun i wr=>∃ k:Nat,i=.int .i64 k∧k≤m∧Hid (∀ (j:Nat) (p:Pl) (n:Int),j < k→ps[j]?=some p→ar[j]?=some n→PlAt n p)∧Ext w1 wr) (fun i _=>m - (intOf i).toNat)
   case atStart=>exact ⟨0,rfl,Nat.zero_le _,Zh (fun j p n hj=>Zo),extX⟩
   case round=>
    obtain ⟨k,rfl,hk,hp,hE2⟩:=hrel;have hw:Ext w wr:=extX;have hb0:wr.cell? ⟨w.heap.size,0,none⟩=some (.slice A m c):=Ext.keep hE2 (by simp [go_sem,hc1,hq1_0]);by_cases hlt:k < m
    .obtain ⟨b,o,x,rfl,hx,hcx⟩:=RI.at_ (RI.ext HA.out hw) hlt;obtain ⟨b',o',p,A',m1,c1,rfl,hy,hd1,hd2,hri⟩:=RP.at_ (RP.ext HB.out hw) hlt;have HX:=Zh hx;have HY:=Zh hy;have HRI:=Zh hri;clear hx hy hri;have hlt':(k:Int) < (m:Int):=by omega
     go_wp2_with fail;go_still_tail 9,Zk
     change wpList _ _ _ _ _ wr.drew
     have hE1:Ext w wr.drew:=extX;by_cases hin:PlAt x p
     .have HR:=Zh (upto2_succ hp.out HY.out HX.out hin);have HP:=Zh (plAt_t hin);clear hin;go_wp2_with (go_at_call 86;(with_reducible refine (c_l15Poly (p:=p) (RdPl.mk (RI.ext HRI.out extX))).mono ?_);rw [HP.out];rintro e w3 ⟨rfl,hE3⟩)
      go_roundw
      case rel=>exact ⟨k+1,by go_num,Zo,HR,extX⟩
      case measure=>exact mq41
     .have HR:=Zh (polysOk_at HY.out HX.out hin);have HP:=Zh (plAt_f hin);clear hin;go_wp2_with (go_at_call 86;(with_reducible refine (c_l15Poly (p:=p) (RdPl.mk (RI.ext HRI.out extX))).mono ?_);rw [HP.out];rintro e w3 ⟨rfl,hE3⟩)
      go_ret;exact ⟨ret_bool HR.out.symm,extX⟩
    .go_wp2;go_ret;exact ⟨ret_bool (polysOk_all HS.out (by rw [HL.out,HM.out]) fun j p x hj hp' hx=>hp.out j p x (by rw [HM.out] at hj;omega) hp' hx).symm,extX⟩
  .have hmn:((m:Int) != (n:Int))=true:=by simp;omega
   have HR:=Zh (polysOk_len (ar:=ar) (ps:=ps) (by rw [HL.out,HM.out];exact hnm));go_enter Tryz.func60,Tryz.ntmps60;go_wp2_with (go_at_call 51;(with_reducible refine (c_sSigOk (ar:=ar) z15q41).mono ?_);rintro e w1 ⟨rfl,hE1⟩;have hz1:=Zs hE1;obtain ⟨hc1,hf1⟩:=bcell hE1;(try have hq1_0:w.heap.size < w1.heap.size:=Zo))
   go_ret;exact ⟨ret_bool HR.out.symm,extX⟩
noncomputable def polyArgs (ar:List Int) (ps:List Pl) (s t:List Int):Bool:=polysOk ar ps && termOk ar s && termOk ar t
theorem polyArgs_iff {ar:List Int} {ps:List Pl} {s t:List Int}:polyArgs ar ps s t=true↔polysOk ar ps=true∧termOk ar s=true∧termOk ar t=true:=by
 unfold polyArgs;rw [Bool.and_eq_true,Bool.and_eq_true,and_assoc]
theorem PolysP.at0 {ar:List Int} {ps:List Pl} (h:PolysP ar ps):PsAt ar ps 0:=by
 intro x a hx;have hl:=arI_lt hx;have hxa:x < ar.length:=by omega
 have hxp:x < ps.length:=by rw [h.2.1];exact hxa
 have hp:=h.2.2 x _ _ (List.getElem?_eq_getElem hxp) (List.getElem?_eq_getElem hxa);have ha:=arI_at (x:=(x:Int)) Zo (by rw [Int.toNat_natCast];exact List.getElem?_eq_getElem hxa);rw [hx] at ha;injection ha with ha
 exact ⟨_,List.getElem?_eq_getElem hxp,by have:=hp.1;omega,hp.2.1,hp.2.2⟩
theorem PolysP.all {ar:List Int} {ps:List Pl} (h:PolysP ar ps):∀ p∈ps,(0≤p.c∧p.c≤9)∧∀ x∈p.cf,0≤x∧x≤9:=by
 intro p hp;obtain ⟨j,hj,rfl⟩:=List.mem_iff_getElem.1 hp;have hja:j < ar.length:=by rw [← h.2.1];exact hj
 exact (h.2.2 j _ _ (List.getElem?_eq_getElem hj) (List.getElem?_eq_getElem hja)).2
theorem c_formAt0 {v0 v1 v2:Value} {ar t:List Int} {ps:List Pl} {w:World} (h0:RdSig w v0 ar) (h1:RdPs w v1 ps) (h2:RdI w v2 t) (hp:PolysP ar ps) (ht:TermP ar t) :
 Calls Tryz.prog 73 #[v0,v1,v2,.int .i64 0] w (NewF w (form ps (tmOf ar t))):=by
 obtain ⟨k1,k2⟩:=tmOf_ok ht;refine c_formAtN hp.1 hp.at0 hp.all _ (tmOf ar t) (Nat.le_refl _) k1 (fun y hy=>ht.2.2.1 y (by rw [← k2];exact hy)) v0 v1 v2 t [] 0 0 w rfl h0 h1 h2 (by rw [k2];simp)
noncomputable def cmpMost (o o':Option Pl):Bool:=match o,o' with | some a,some b=>most a b && decide (a.c≤b.c) | _,_=>false
noncomputable def cmpLess (o o':Option Pl):Bool:=match o,o' with | some a,some b=>most a b && decide (a.c < b.c) | _,_=>false
theorem c_compareForms {v0 v1 v2 v3:Value} {ar:List Int} {ps:List Pl} {s t:List Int} {w:World} (h0:RdSig w v0 ar) (h1:RdPs w v1 ps) (h2:RdI w v2 s) (h3:RdI w v3 t) (hp:PolysP ar ps) (hs:TermP ar s) (ht:TermP ar t) :
 Calls Tryz.prog 50 #[v0,v1,v2,v3] w fun e w'=>e=.returned (.tuple #[.bool (cmpMost (form ps (tmOf ar s)) (form ps (tmOf ar t))),.bool (cmpLess (form ps (tmOf ar s)) (form ps (tmOf ar t)))])∧Ext w w':=by
 obtain ⟨A,n,c,rfl,ha⟩:=h0;obtain ⟨B,m,d,rfl,hb⟩:=h1;obtain ⟨D,q,l,rfl,hd⟩:=h2;obtain ⟨F,q',l',rfl,hf⟩:=h3;have HA:=Zh ha;have HB:=Zh hb;have HD:=Zh hd;have HF:=Zh hf;have HP:=Zh hp;have HS:=Zh hs;have HT:=Zh ht;clear ha hb hd hf hp hs ht;obtain ⟨oa,hoa⟩:∃ oa,oa=form ps (tmOf ar s):=⟨_,rfl⟩;obtain ⟨ob,hob⟩:∃ ob,ob=form ps (tmOf ar t):=⟨_,rfl⟩;rw [← hoa,← hob];have HOA:=Zh hoa;have HOB:=Zh hob;clear hoa hob;go_enter Tryz.func50,Tryz.ntmps50;go_wp2_with fail
 (with_reducible refine (c_formAt0 (t:=s) (RdSig.mk (RI.ext HA.out extX)) (RdPs.mk (RP.ext HB.out extX)) (RdI.mk (RI.ext HD.out extX)) HP.out HS.out).mono ?_);rw [← HOA.out];rintro e2 w2 ⟨A2,n2,c2,rfl,hO2,hE2⟩;have HO2:=Zh hO2;have HL2:=Zh hO2.ri;have hs0:w2.cell? ⟨w.heap.size,0,none⟩=some (.slice A n c):=Ext.keep hE2 (by simp [go_sem]);have hEw2:Ext w w2:=Ext.trans extX hE2;have hlt2:w.heap.size < w2.heap.size:=World.block_lt_of_cell? w2 _ hs0;clear hO2 hE2;go_wp2_with fail;obtain ⟨wq,hwq⟩:∃ wq,wq=w2.alloc (.cells #[.int .i64 (rp oa).c,.slice A2 n2 c2] 82):=⟨_,rfl⟩;have hg0:wq.cell? ⟨w2.heap.size,0,none⟩=some (.int .i64 (rp oa).c):=by rw [hwq];simp [go_sem]
 have hg1:wq.cell? ⟨w2.heap.size,1,none⟩=some (.slice A2 n2 c2):=by rw [hwq];simp [go_sem]
 have hEq:Ext w2 wq:=by rw [hwq];exact (Ext.refl _).alloc _
 rw [← hwq];clear hwq;have hEwq:Ext w wq:=Ext.trans hEw2 hEq
 (with_reducible refine (c_formAt0 (t:=t) (RdSig.mk (RI.ext HA.out hEwq)) (RdPs.mk (RP.ext HB.out hEwq)) (RdI.mk (RI.ext HF.out hEwq)) HP.out HT.out).mono ?_);rw [← HOB.out];rintro e3 w3 ⟨A3,n3,c3,rfl,hO3,hE3⟩;have HL3:=Zh hO3.ri;have hk0:=Ext.keep hE3 hg0;have hk1:=Ext.keep hE3 hg1;have hkl:w2.heap.size < w3.heap.size:=World.block_lt_of_cell? w3 _ hk0;have hE23:Ext w2 w3:=Ext.trans hEq hE3;have hEw3:Ext w w3:=Ext.trans hEwq hE3;clear hO3 hg0 hg1;cases oa with
 | none=>
  go_wp2;go_ret2
  exact ⟨rfl,extX⟩
 | some a=>
  cases ob with
  | none=>
   go_wp2;go_ret2
   exact ⟨rfl,extX⟩
  | some b=>
   go_wp2_with (go_at_call 74;(with_reducible refine (c_atMost (a:=rp (some a)) (b:=rp (some b)) (RdPl.mk (RI.ext HL2.out extX)) (RdPl.mk (RI.ext HL3.out extX))).mono ?_);rintro e4 w4 ⟨rfl,hE4⟩)
   go_ret2
   exact ⟨rfl,extX⟩
theorem c_l15Most {v0 v1:Value} {a b:Pl} {w:World} (h0:RdPl w v0 a) (h1:RdPl w v1 b) (hnn:∀ y∈b.cf,0≤y) :
 Calls Tryz.prog 62 #[v0,v1] w fun e w'=>e=.returned (.bool (most a b))∧Ext w w':=by
 obtain ⟨A,n,c,rfl,ha⟩:=h0;obtain ⟨B,m,d,rfl,hb⟩:=h1;have hn:=ha.le;have HL:=Zh ha.len;have HM:=Zh hb.len;have HA:=Zh ha;have HB:=Zh hb;have HNN:=Zh hnn;clear ha hb hnn;go_enter Tryz.func62,Tryz.ntmps62;go_wp2_with fail;obtain ⟨wo,hwo⟩:∃ wo,wo=(w.alloc (.cells #[.int .i64 a.c,.slice A n c] 82)).alloc (.cells #[.int .i64 b.c,.slice B m d] 82):=⟨_,rfl⟩;have hw1:wo.cell? ⟨w.heap.size,1,none⟩=some (.slice A n c):=by rw [hwo];simp [go_sem]
 have hw3:wo.cell? ⟨w.heap.size+1,1,none⟩=some (.slice B m d):=by rw [hwo];simp [go_sem]
 have hEo:Ext w wo:=by rw [hwo];exact extX
 rw [← hwo];clear hwo;go_loopw [5] (fun i wr=>∃ k:Nat,i=.int .i64 k∧k≤n∧Hid (∀ (j:Nat) (x:Int),j < k→a.cf[j]?=some x→x≤nth b.cf j)∧Ext wo wr) (fun i _=>n - (intOf i).toNat)
 case atStart=>exact ⟨0,rfl,Nat.zero_le _,Zh fun j x hj=>Zo,Ext.refl _⟩
 case round=>
  obtain ⟨k,rfl,hk,hp,hE⟩:=hrel;have hEw:Ext w wr:=Ext.trans hEo hE;have hr1:=Ext.keep hE hw1;have hr3:=Ext.keep hE hw3;by_cases hlt:k < n
  .obtain ⟨b',o',x,rfl,hx,hcx⟩:=RI.at_ (RI.ext HA.out hEw) hlt;have HX:=Zh hx;clear hx;have hki:(k:Int) < (n:Int):=by omega
   have hk0:(0:Int)≤(k:Int):=by omega
   have hstep:=fun (hxb:x≤nth b.cf k)=>Zh (show ∀ (j:Nat) (y:Int),j < k+1→a.cf[j]?=some y→y≤nth b.cf j from fun j y hj e=>by
    rcases Nat.lt_or_ge j k with h | h
    .exact hp.out j y h e
    .obtain rfl:j=k:=by omega
     rw [HX.out] at e;cases e;exact hxb)
   have HST:=Zh hstep;clear hstep;by_cases hx0:0 < x
   .have hd0:decide (0 < x)=true:=by simpa using hx0
    by_cases hkm:k < m
    .have hd1:decide ((m:Int)≤(k:Int))=false:=by simp;omega
     obtain ⟨b2,o2,y,rfl,hy,hcy⟩:=RI.at_ (RI.ext HB.out hEw) hkm;have HY:=Zh (getD_at hy);clear hy;have hkmi:(k:Int) < (m:Int):=by omega
     by_cases hxy:y < x
     .have hd2:decide (y < x)=true:=by simpa using hxy
      have HR:=Zh (most_f (a:=a) (b:=b) HX.out (by rw [HY.out];exact hxy));go_wp2_with fail;go_quiet (fail)
      go_wp2;go_ret;exact ⟨ret_bool HR.out.symm,extX⟩
     .have hd2:decide (y < x)=false:=by simpa using hxy
      have HP:=HST.out (by rw [HY.out];omega);go_wp2_with fail;go_quiet (fail)
      go_wp2;go_roundw
      case rel=>exact ⟨k+1,by go_num,Zo,HP,extX⟩
      case measure=>exact mq41
    .have hd1:decide ((m:Int)≤(k:Int))=true:=by simp;omega
     have HR:=Zh (most_f (a:=a) (b:=b) HX.out (by rw [getD_past (by rw [HM.out];omega)];exact hx0));go_wp2_with fail;go_quiet (fail)
     go_wp2;go_ret;exact ⟨ret_bool HR.out.symm,extX⟩
   .have hd0:decide (0 < x)=false:=by simpa using hx0
    have HP:=HST.out (by
     have:0≤nth b.cf k:=by
      rcases hj:b.cf[k]? with _ | y
      .unfold nth;rw [List.getD_eq_getElem?_getD,hj];simp
      .rw [getD_at hj];exact HNN.out y (List.mem_of_getElem? hj)
     omega)
    go_wp2_with fail;go_quiet (fail)
    go_wp2;go_roundw
    case rel=>exact ⟨k+1,by go_num,Zo,HP,extX⟩
    case measure=>exact mq41
  .have HR:=Zh (most_t (a:=a) (b:=b) fun j x hj e=>hp.out j x (by rw [HL.out] at hj;omega) e);go_wp2;go_ret;exact ⟨ret_bool HR.out.symm,extX⟩

