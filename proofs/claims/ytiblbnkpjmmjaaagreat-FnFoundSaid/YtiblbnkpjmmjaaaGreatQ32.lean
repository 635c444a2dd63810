/- -/
import Derived.Test.YtiblbnkpjmmjaaaGreatQ31
set_option maxRecDepth 100000
set_option maxHeartbeats 16000000
set_option linter.all false
namespace Go.Proofs.YtiblbnkpjmmjaaaGreat
open Go.RowKit
def putV (V:Nat→Nat→Int) (i j:Nat) (v:Int):Nat→Nat→Int:=fun a b=>if a=i∧b=j then v else V a b
theorem RI.farS {w w':World} {b o n:Nat} {xs:List Int} (h:RI w (some ⟨b,o,none⟩) n xs) (hk:w'.heap[b]?=w.heap[b]?):RI w' (some ⟨b,o,none⟩) n xs:=
 ⟨h.1,fun hn=>by
  obtain ⟨b',o',e,hc⟩:=h.2 hn;cases e;exact ⟨b,o,rfl,fun j x hx=>(World.cell?_of_block hk).trans (hc j x hx)⟩⟩
theorem SC.H.put {Y:SC} {w:World} {V:Nat→Nat→Int} (h:Y.H w V) {i j:Nat} (hi:i < Y.k) (v:Int):Y.H (w.setCell ⟨Y.row i,j,none⟩ (.int .i64 v)) (putV V i j v):=by
 obtain ⟨f1,f2,f3,f4,f5,f6,f7,f8⟩:=h.far i hi;have hs:∀ b,b≠Y.row i→(w.setCell ⟨Y.row i,j,none⟩ (.int .i64 v)).heap[b]?=w.heap[b]?:=fun b hb=>Below.heap_setCell _ _ _ _ hb;have hc:∀ {b o u},b≠Y.row i→w.cell? ⟨b,o,none⟩=some u→(w.setCell ⟨Y.row i,j,none⟩ (.int .i64 v)).cell? ⟨b,o,none⟩=some u:=fun hb e=>(World.cell?_of_block (hs _ hb)).trans e;have hargs:∀ {ar t:List Int} {pa:Nat},pa≠Y.row i→ArgsIn w ar t pa Y.row Y.k→ArgsIn (w.setCell ⟨Y.row i,j,none⟩ (.int .i64 v)) ar t pa Y.row Y.k:=fun hp ha q hq=>by
  obtain ⟨A,c,h1,h2,h3⟩:=ha q hq;refine ⟨A,c,hc hp h1,⟨h2.1,fun hn=>?_⟩,h3⟩;obtain ⟨b,o,e,h4⟩:=h2.2 hn;exact ⟨b,o,e,fun r x hx=>hc (h3 b o none e i hi) (h4 r x hx)⟩
 refine ⟨h.a.farS (hs _ (Ne.symm f1)),h.r.farS (hs _ (Ne.symm f2)),h.s.farS (hs _ (Ne.symm f3)),h.t.farS (hs _ (Ne.symm f4)),hc (Ne.symm f5) h.c0,hc (Ne.symm f5) h.c1,hc (Ne.symm f5) h.c2,hc (Ne.symm f5) h.c3,hc (Ne.symm f5) h.c4,hc (Ne.symm f5) h.c5,hc (Ne.symm f5) h.c6,hargs (Ne.symm f6) h.sa,hargs (Ne.symm f7) h.ta,fun a ha=>hc (Ne.symm f8) (h.wy a ha),fun a b ha hb=>?_,fun a b ha=>by rw [World.frozen?_setCell];exact h.fr a b ha,fun a ha=>by simpa [World.setCell] using h.lt a ha,h.one,h.far⟩;unfold putV;by_cases e:a=i∧b=j
 .obtain ⟨rfl,rfl⟩:=e;rw [if_pos ⟨rfl,rfl⟩];exact World.cell?_setCell_same _ _ _ (h.v a b ha hb)
 .rw [if_neg e];by_cases e2:a=i
  .subst e2;rw [World.cell?_setCell_other _ _ _ _ (by first | (simp;done) | (simp;omega) | (simp;intro e3;exact absurd ⟨rfl,e3⟩ e) | (simp;intro e3;exact absurd ⟨rfl,e3.symm⟩ e))];exact h.v a b ha hb
  .exact hc (fun e3=>e2 (h.one a i ha hi e3)) (h.v a b ha hb)
def Filled (Y:SC) (F:Tm→Tm→Nat) (V:Nat→Nat→Int) (i j:Nat):Prop:=∀ a b,a < Y.s.length→b < Y.t.length→(j < b∨(b=j∧i≤a))→V a b=(F (subT Y.ar Y.t b) (subT Y.ar Y.s a):Int)
theorem Filled.step {Y:SC} {F:Tm→Tm→Nat} {V:Nat→Nat→Int} {i j:Nat} (h:Filled Y F V (i+1) j) (v:Int) (hv:v=(F (subT Y.ar Y.t j) (subT Y.ar Y.s i):Int)):Filled Y F (putV V i j v) i j:=by
 intro a b ha hb hab;unfold putV;by_cases e:a=i∧b=j
 .obtain ⟨rfl,rfl⟩:=e;rw [if_pos ⟨rfl,rfl⟩];exact hv
 .rw [if_neg e];exact h a b ha hb Zo
theorem Filled.next {Y:SC} {F:Tm→Tm→Nat} {V:Nat→Nat→Int} {j:Nat} (h:Filled Y F V 0 (j+1)):Filled Y F V Y.s.length j:=fun a b ha hb hab=>h a b ha hb Zo
theorem Filled.at_ {Y:SC} {F:Tm→Tm→Nat} {V:Nat→Nat→Int} {i j a b:Nat} {t s:Tm} (h:Filled Y F V (i+1) j) (ha:a < Y.s.length) (hb:b < Y.t.length) (hs:subT Y.ar Y.s a=s) (ht:subT Y.ar Y.t b=t) (hab:j < b∨(b=j∧i+1≤a)):V a b=(F t s:Int):=by
 rw [← hs,← ht];exact h a b ha hb hab
theorem Told.of {v:Int} {n:Nat} (h:v=(n:Int)):Told v n:=by subst h;unfold Told;omega
theorem pl_lt {i:Nat} {us:List Tm} {k:Nat}:i < pl i us k:=by unfold pl;omega
def flagN (W:Tm→Tm→Nat) (t s:Tm):Nat:=if 0 < W t s then 1 else 0
theorem Told.flag {v:Int} {W:Tm→Tm→Nat} {t s:Tm} (h:v=(flagN W t s:Int)):Told v (W t s):=by
 subst h;unfold flagN Told;split<;>omega
theorem SC.H.out {Y:SC} {w:World} {V:Nat→Nat→Int} {F:Tm→Tm→Nat} (h:Y.H w V) (hP:Y.P) (hF:Filled Y F V 0 0):(0 < Y.k∧0 < Y.m)∧w.cell? ⟨Y.wb,0,none⟩=some (.slice (some ⟨Y.row 0,0,none⟩) Y.m Y.m)∧w.cell? ⟨Y.row 0,0,none⟩=some (.int .i64 (F (subT Y.ar Y.t 0) (subT Y.ar Y.s 0):Int)):=by
 have hk:0 < Y.k:=by rw [← h.s.len];exact hP.ts.2.1.1
 have hm:0 < Y.m:=by rw [← h.t.len];exact hP.tt.2.1.1
 refine ⟨⟨hk,hm⟩,h.wy 0 hk,?_⟩;rw [h.v 0 0 hk hm,hF 0 0 hP.ts.2.1.1 hP.tt.2.1.1 Zo]
theorem mq32 {p:Prop} (h:p:=by simp only [intOf];omega):p:=h
theorem c_l13Why {ar rk s t:List Int} {A:Option Addr} {n c:Nat} {R:Option Addr} {rn rc:Nat} {B:Option Addr} {m d:Nat} {D:Option Addr} {k l:Nat} {w:World} (hs:SigP ar) (hrl:rk.length=ar.length) (ht:TermP ar t) (hss:TermP ar s)
 (ha:RI w A n ar) (hr:RI w R rn rk) (hB:RI w B m t) (hD:RI w D k s) (hmd:m≤d∧d≤9223372036854775807) (hkl:k≤l∧l≤9223372036854775807) :
 Calls Tryz.prog 53 #[.agg #[.slice A n c],.slice R rn rc,.slice D k l,.slice B m d] w fun e w'=>e=.returned (.int .i64 (lpoW (rkF rk) true (subT ar t 0) (subT ar s 0):Int))∧Ext w w':=by
 have hm60:m≤60:=by rw [← hB.len];exact ht.2.1.2
 have hk60:k≤60:=by rw [← hD.len];exact hss.2.1.2
 have HA:=Zh ha;have HR:=Zh hr;have HB:=Zh hB;have HD:=Zh hD;have HS:=Zh hs;have HT:=Zh ht;have HSS:=Zh hss;have HRL:=Zh hrl;have HMD:=Zh hmd;have HKL:=Zh hkl;clear ha hr hB hD hs hrl ht hss hmd hkl;go_enter Tryz.func53,Tryz.ntmps53;go_wp2_with fail
 (with_reducible refine (c_l13Make HS.out HRL.out HT.out HSS.out (RI.ext HA.out extX) (RI.ext HR.out extX) (RI.ext HB.out extX) (RI.ext HD.out extX) HMD.out HKL.out).mono ?_);rintro e w1 ⟨Y,rfl,hP,hH,⟨rfl,rfl,rfl,rfl⟩,hrow,hE1⟩;obtain rfl:k=Y.k:=by rw [← HD.out.len,hH.s.len]
 obtain rfl:m=Y.m:=by rw [← HB.out.len,hH.t.len]
 have hE1w:Ext w w1:=Ext.trans extX hE1;have HP:=Zh hP;have HROW:=Zh (show ∀ i,i < Y.k→w.heap.size≤Y.row i from fun i hi=>by have:=hrow i hi;simp [go_sem] at this;omega);have HH:=Zh hH;obtain ⟨F,hF⟩:∃ F,F=lpoW (rkF Y.rk) true:=⟨_,rfl⟩;have HF:=Zh hF;clear hP hH hrow hF hE1;go_wp2_with fail;go_loopw [10] (fun jv wr=>∃ p:Nat,jv=.int .i64 ((p:Int) - 1)∧p≤Y.m∧Hid (∃ V,Y.H wr V∧Filled Y F V 0 p)∧Ext w wr) (fun jv _=>(intOf jv+1).toNat)
 case atStart=>exact ⟨Y.m,rfl,Nat.le_refl _,Zh ⟨_,HH.out,fun a b ha hb hab=>by rw [HH.out.t.len] at hb;omega⟩,hE1w⟩
 case round=>
  obtain ⟨p,rfl,hp,hV,hE⟩:=hrel;cases p with
  | zero=>
   obtain ⟨V,h1,h2⟩:=hV.out;obtain ⟨⟨q1,q2⟩,q3,q4⟩:=h1.out HP.out h2;have c6:=h1.c6;go_wp2;go_ret;exact ⟨ret_int (by rw [HF.out]),hE⟩
  | succ j=>
   obtain ⟨wj,rfl⟩:∃ wj:World,wj=wr:=⟨_,rfl⟩;have hj1:((j+1:Nat):Int) - 1=(j:Int):=by omega
   have hj0:(0:Int)≤(j:Int):=by omega
   have hjm:(j:Int) < (Y.m:Int):=by omega
   rw [hj1];clear hj1;go_wp2_with fail;go_loopw [11] (fun iv wr=>∃ r:Nat,iv=.int .i64 ((r:Int) - 1)∧r≤Y.k∧Hid (∃ V,Y.H wr V∧Filled Y F V r j)∧Ext w wr) (fun iv _=>(intOf iv+1).toNat)
   case atStart=>exact ⟨Y.k,rfl,Nat.le_refl _,Zh (by obtain ⟨V,h1,h2⟩:=hV.out;exact ⟨V,h1,by have:=h2.next;rw [h1.s.len] at this;exact this⟩),hE⟩
   case round=>
    obtain ⟨r,rfl,hr,hV2,hE2⟩:=hrel;cases r with
    | zero=>
     go_wp2;go_roundw
     case rel=>exact ⟨j,by first | rfl | (congr 1;omega),Zo,hV2,hE2⟩
     case measure=>exact mq32
    | succ i=>
     have hi1:((i+1:Nat):Int) - 1=(i:Int):=by omega
     have hi0:(0:Int)≤(i:Int):=by omega
     have hik:(i:Int) < (Y.k:Int):=by omega
     rw [hi1];clear hi1;obtain ⟨V,h1,h2⟩:=hV2.out;have hil:i < Y.s.length:=by rw [h1.s.len];omega
     have hjl:j < Y.t.length:=by rw [h1.t.len];omega
     obtain ⟨⟨y,ss⟩,hsi⟩:∃ u,subT Y.ar Y.s i=u:=⟨_,rfl⟩;obtain ⟨⟨x,us⟩,htj⟩:∃ u,subT Y.ar Y.t j=u:=⟨_,rfl⟩;have hA:Y.At i j y ss x us:=⟨hil,hjl,hsi,htj⟩;have HA2:=Zh hA;have HV:=Zh h1;have HFI:=Zh h2;have c6:=h1.c6;have cw:=h1.wy i Zo;have hi':i < Y.k:=by omega
     have hj':j < Y.m:=by omega
     have hft1:∀ k a,us[k]?=some a→V i (pl j us k)=(F a (.node y ss):Int):=fun k a ha=>by
      obtain ⟨g1,g2⟩:=hA.pt HP.out ha;exact h2.at_ hil g1 hsi g2 (.inl pl_lt)
     have hft2:∀ k b,ss[k]?=some b→V (pl i ss k) j=(F (.node x us) b:Int):=fun k b hb=>by
      obtain ⟨g1,g2⟩:=hA.ps HP.out hb;exact h2.at_ g1 hjl g2 htj (.inr ⟨rfl,pl_lt⟩)
     have hft3:∀ k q a b,us[k]?=some a→ss[q]?=some b→V (pl i ss q) (pl j us k)=(F a b:Int):=fun k q a b ha hb=>by
      obtain ⟨g1,g2⟩:=hA.pt HP.out ha;obtain ⟨g3,g4⟩:=hA.ps HP.out hb;exact h2.at_ g3 g1 g4 g2 (.inl pl_lt)
     have HT1:=Zh hft1;have HT2:=Zh hft2;have HT3:=Zh hft3;have HSI:=Zh hsi;have HTJ:=Zh htj;clear h1 h2 hA hsi htj hil hjl hft1 hft2 hft3 hV2;obtain ⟨r0,hr0⟩:∃ r0,lpoB (rkF Y.rk) true F (.node x us) (.node y ss)=r0:=⟨_,rfl⟩;have HR0:=Zh hr0;have HRF:=Zh (show F (.node x us) (.node y ss)=r0 by rw [← hr0,HF.out];exact lpoW_eq _ _ _ _);clear hr0;go_wp2_with fail;refine wp_only (R:=fun (a0:Act) (a8:Act) (w9:World)=>a8=(((((((((((((a0.put (some 31) (.pointer (some ⟨Y.g,0,none⟩))).put (some 32) (.pointer (some ⟨Y.g,0,none⟩))).put (some 33) (.pointer (some ⟨Y.g,6,none⟩))).put (some 34) (.slice (some ⟨Y.wb,0,none⟩) Y.k Y.wc)).put (some 35) (.int .i64 (i:Int))).put (some 36) (.pointer (some ⟨Y.wb,i,none⟩))).put (some 37) (.slice (some ⟨Y.row i,0,none⟩) Y.m Y.m)).put (some 38) (.int .i64 (j:Int))).put (some 39) (.pointer (some ⟨Y.g,0,none⟩))).put (some 40) (.int .i64 (i:Int))).put (some 41) (.int .i64 (j:Int))).put (some 42) (.int .i64 (r0:Int))).put (some 43) (.pointer (some ⟨Y.row i,j,none⟩)))∧Y.H w9 (putV V i j (r0:Int))∧Ext w w9) ?_ (fun a8 w9 hR=>?_)
     .refine wp_region_held_drew (S:=(fun w'=>w'.cell? ⟨Y.g,6,none⟩=some (.slice (some ⟨Y.wb,0,none⟩) Y.k Y.wc)∧w'.cell? ⟨Y.wb,i,none⟩=some (.slice (some ⟨Y.row i,0,none⟩) Y.m Y.m))) Zk (⟨c6,cw⟩) (fun hH=>?_);refine s6Z1 0 (.pointer (some ⟨Y.g,0,none⟩)) 31 1 (.pointer (some ⟨Y.g,0,none⟩)) 32 2 (.pointer (some ⟨Y.g,6,none⟩)) 33 3 (.slice (some ⟨Y.wb,0,none⟩) Y.k Y.wc) 34 4 (.int .i64 (i:Int)) 35 5 (.pointer (some ⟨Y.wb,i,none⟩)) 36 hH ?_;refine s4Z1 6 (.slice (some ⟨Y.row i,0,none⟩) Y.m Y.m) 37 7 (.int .i64 (j:Int)) 38 8 (.pointer (some ⟨Y.g,0,none⟩)) 39 9 (.int .i64 (i:Int)) 40 hH ?_;refine s1Z1 10 (.int .i64 (j:Int)) 41 hH ?_;refine Z4 11 fun K hK=>?_;go_wp2_with fail
      (with_reducible refine (c_l13Reason (V:=V) (W:=F) HR0.out HP.out (HV.out.ext (Ext.drew (Ext.refl wr))) HA2.out (fun k a ha=>.of (HT1.out k a ha)) (fun k b hb=>.of (HT2.out k b hb)) (fun k a b ha hb=>.of (HT3.out k k a b ha hb))).mono ?_);rintro e w9 ⟨rfl,hE9⟩;refine hK.out _ _ (⟨Ext.keep hE9 hH.1,Ext.keep hE9 hH.2⟩) (fun hH9=>?_);clear hK hH;rename _=>hH;try simp only [Act.put,Zl]
      refine s1Z1 12 (.pointer (some ⟨Y.row i,j,none⟩)) 43 hH ?_;refine Z4 13 fun K hK=>?_;have h13:=(HV.out.ext (Ext.trans (Ext.drew (Ext.refl wr)) hE9)).v i j hi' hj';have f13:=fun j=>(HV.out.ext (Ext.trans (Ext.drew (Ext.refl wr)) hE9)).fr i j hi';go_wp2_with fail;refine hK.out _ _ (⟨((HV.out.ext (Ext.trans (Ext.drew (Ext.refl wr)) hE9)).put hi' (j:=j) (r0:Int)).c6,((HV.out.ext (Ext.trans (Ext.drew (Ext.refl wr)) hE9)).put hi' (j:=j) (r0:Int)).wy i hi'⟩) (fun hH9=>?_);clear hK hH;rename _=>hH;try simp only [Act.put,Zl]
      refine wpAnyH_done Zk ?_ _;exact ⟨rfl,(HV.out.ext (Ext.trans (Ext.drew (Ext.refl wr)) hE9)).put hi' (r0:Int),Ext.set (Ext.trans hE2 (Ext.trans (Ext.drew (Ext.refl wr)) hE9)) (HROW.out i hi') _⟩
     obtain ⟨ha,⟨hH9,hE9⟩⟩:=hR;simp only [Act.put,Zl] at ha;subst ha;have HN:=Zh (show Y.H w9 (putV V i j (r0:Int))∧Filled Y F (putV V i j (r0:Int)) i j from ⟨hH9,HFI.out.step _ (by rw [HSI.out,HTJ.out,HRF.out])⟩);clear hH9;go_wp2;go_roundw
     case rel=>exact ⟨i,by first | rfl | (congr 1;omega),Zo,Zh ⟨_,HN.out⟩,hE9⟩
     case measure=>exact mq32
theorem c_l13WhyO {v0 v1 v2 v3:Value} {ar rk s t:List Int} {V:Nat} {w:World} (hok:lpoArgs ar rk s t=true) (hV:V=lpoA ar rk true s t) (h0:RdSig w v0 ar) (h1:RdI w v1 rk) (h2:RdIc w v2 s) (h3:RdIc w v3 t) :
 Calls Tryz.prog 53 #[v0,v1,v2,v3] w fun e w'=>e=.returned (.int .i64 (V:Int))∧Ext w w':=by
 obtain ⟨A,n,c,rfl,ha⟩:=h0;obtain ⟨R,rn,rc,rfl,hr⟩:=h1;obtain ⟨D,k,l,rfl,hkl,hd⟩:=h2;obtain ⟨B,m,d,rfl,hmd,hb⟩:=h3;obtain ⟨⟨g1,g2⟩,g3,g4,g5⟩:=lpoArgs_iff.1 hok;subst hV;exact c_l13Why g3 g4 g2 g1 ha hr hb hd hmd hkl
theorem c_l13Orients {v0 v1:Value} {s:Sy} {rk:List Int} {w:World} (h0:RdSyC w v0 s) (h1:RdI w v1 rk) (hs:SysP s) (hk:rankOk s.ar rk=true) :
 Calls Tryz.prog 32 #[v0,v1] w fun e w'=>e=.returned (.bool (lpAll true s rk))∧Ext w w':=by
 obtain ⟨A,n,c,B,m,d,rfl,ha,hb⟩:=h0;obtain ⟨R,q,f,rfl,hrk⟩:=h1;have hm:=hb.le;have HL:=Zh hb.len;have HA:=Zh ha;have HB:=Zh hb;have HRK:=Zh hrk;have HS:=Zh hs;have HK:=Zh hk;clear ha hb hrk hs hk;go_enter Tryz.func32,Tryz.ntmps32;go_wp2_with fail;obtain ⟨wo,hwo⟩:∃ wo,wo=w.alloc (.cells #[.slice A n c,.slice B m d] 32):=⟨_,rfl⟩;have hw0:wo.cell? ⟨w.heap.size,0,none⟩=some (.slice A n c):=by rw [hwo];simp [go_sem]
 have hw1:wo.cell? ⟨w.heap.size,1,none⟩=some (.slice B m d):=by rw [hwo];simp [go_sem]
 have hEo:Ext w wo:=by rw [hwo];exact extX
 rw [← hwo];clear hwo;go_loopw [5] (fun i wr=>∃ k:Nat,i=.int .i64 k∧k≤m∧Hid (∀ (j:Nat) (r:Ru),j < k→s.rs[j]?=some r→lpoA s.ar rk true r.r r.l≠0)∧Ext wo wr) (fun i _=>m - (intOf i).toNat)
 case atStart=>exact ⟨0,rfl,Nat.zero_le _,Zh fun j y hj=>Zo,Ext.refl _⟩
 case round=>
  obtain ⟨k,rfl,hk,hp,hE9⟩:=hrel;have hw:Ext w wr:=Ext.trans hEo hE9;have hr0:wr.cell? ⟨w.heap.size,0,none⟩=some (.slice A n c):=Ext.keep hE9 hw0;have hr1':wr.cell? ⟨w.heap.size,1,none⟩=some (.slice B m d):=Ext.keep hE9 hw1;by_cases hlt:k < m
  .obtain ⟨b,o,r,A1,m1,c1,A2,m2,c2,rfl,hx,hd1,hd2,hr1,hr5,hcap1,hcap2⟩:=RR.at_ (RR.ext HB.out hw) hlt;have hEd:Ext wr wr.drew:=(Ext.refl wr).drew;have hEwd:Ext w wr.drew:=hw.drew;have HX:=Zh hx;have HR1:=Zh (hr1.ext hEd);have HR2:=Zh (hr5.ext hEd);have HC1:=Zh (hcap1 rfl);have HC2:=Zh (hcap2 rfl);have HOK:=Zh (lpoArgs_rule HS.out HK.out hx);clear hx hr1 hr5 hcap1 hcap2;have hlt':(k:Int) < (m:Int):=by omega
   obtain ⟨V,hV⟩:∃ V,V=lpoA s.ar rk true r.r r.l:=⟨_,rfl⟩;have HV:=Zh hV;clear hV;by_cases hz:V=0
   .have HR:=Zh (lpAll_f (lex:=true) (rk:=rk) HX.out (HV.out.symm.trans hz));have hzb:((V:Int) == 0)=true:=by rw [hz];rfl
    clear hz;go_wp2_with fail;go_still_tail 15,Zk
    change wpList _ _ _ _ _ wr.drew
    go_wp2_with fail
    (with_reducible refine (c_l13WhyO HOK.out HV.out (RdSig.mk (RI.ext HA.out hEwd)) (RdI.mk (RI.ext HRK.out hEwd)) (RdIc.mk HC2.out HR2.out) (RdIc.mk HC1.out HR1.out)).mono ?_);rintro e w5 ⟨rfl,hE5⟩;go_wp2;go_ret;exact ⟨ret_bool HR.out.symm,Ext.trans hEwd hE5⟩
   .have hzb:((V:Int) == 0)=false:=by simp;exact hz
    have HP:=Zh (show ∀ (j:Nat) (r:Ru),j < k+1→s.rs[j]?=some r→lpoA s.ar rk true r.r r.l≠0 from fun j y hj e=>by
     rcases Nat.lt_or_ge j k with h' | h'
     .exact hp.out j y h' e
     .obtain rfl:j=k:=by omega
      rw [HX.out] at e;cases e;rw [← HV.out];exact hz)
    clear hz;go_wp2_with fail;go_still_tail 15,Zk
    change wpList _ _ _ _ _ wr.drew
    go_wp2_with fail
    (with_reducible refine (c_l13WhyO HOK.out HV.out (RdSig.mk (RI.ext HA.out hEwd)) (RdI.mk (RI.ext HRK.out hEwd)) (RdIc.mk HC2.out HR2.out) (RdIc.mk HC1.out HR1.out)).mono ?_);rintro e w5 ⟨rfl,hE5⟩;go_wp2;go_roundw
    case rel=>exact ⟨k+1,by go_num,Zo,HP,Ext.trans hE9 (Ext.trans hEd hE5)⟩
    case measure=>exact mq32
  .have HR:=Zh (lpAll_t (s:=s) (rk:=rk) (lex:=true) fun j r hj e=>hp.out j r (by rw [HL.out] at hj;omega) e);go_wp2;go_ret;exact ⟨ret_bool HR.out.symm,extX⟩
theorem RI.head' {w:World} {A:Option Addr} {n:Nat} {xs:List Int} (h:RI w A n xs) (hn:0 < n):∃ b o,A=some ⟨b,o,none⟩:=by
 obtain ⟨b,o,e,_⟩:=h.2 hn;exact ⟨b,o,e⟩
theorem l1Has_isN {v:Value} {t:List Int} {x:Int} {b:Bool} {w:World} (hb:decide (x∈t)=b) (h0:RdI w v t) :
 Calls Tryz.prog 55 #[v,.int .i64 x] w fun e w'=>e=.returned (.bool b)∧w'=w:=by subst hb;exact q_l1Has h0
theorem c_l16Order {A:Option Addr} {n c:Nat} {xs:List Int} {b:Bool} {w:World} (hb:permOk xs=b) (h0:RI w A n xs) (hc:n≤c∧c≤9223372036854775807) :
 Calls Tryz.prog 54 #[.slice A n c] w fun e w'=>e=.returned (.bool b)∧Ext w w':=by
 have hn:=h0.le;have HA:=Zh h0;have HL:=Zh h0.len;have HB:=Zh hb;clear h0 hb;go_enter Tryz.func54,Tryz.ntmps54;go_wp2_with fail;go_loopw [3] (fun i wr=>∃ k:Nat,i=.int .i64 k∧k≤n∧Hid (permTo xs k)∧Ext w wr) (fun i _=>n - (intOf i).toNat)
 case atStart=>exact ⟨0,rfl,Nat.zero_le _,Zh (permTo_zero xs),Ext.refl _⟩
 case round=>
  obtain ⟨k,rfl,hk,hp,hE⟩:=hrel;by_cases hlt:k < n
  .obtain ⟨bb,o,x,rfl,hx,hcx⟩:=RI.at_ (RI.ext HA.out hE) hlt;have HX:=Zh hx;have HT:=Zh (RI.takeU (RI.ext HA.out hE) hk);have hki:(k:Int) < (n:Int):=by omega
   have hk0:(0:Int)≤(k:Int):=by omega
   have hkc:(k:Int)≤(c:Int):=by omega
   have hn1:1≤(n:Int):=by omega
   clear hx;by_cases hin:0≤x∧x≤(n:Int) - 1
   .by_cases hm:x∈xs.take k
    .have HM:=Zh (show decide (x∈xs.take k)=true by simpa using hm);have HF:=Zh (permOk_twice HX.out hm);have hbf:b=false:=by rw [← HB.out];exact HF.out
     subst hbf;clear hm;go_wp2_with fail;go_quiet (first | (go_at_call 58;exact Calls.quiet_of_same (q_l1In_t hin)) | (go_at_call 55;exact Calls.quiet_of_same (l1Has_isN HM.out (RdI.mk HT.out))))
     go_wp2;go_ret;exact ⟨rfl,extX⟩
    .have HM:=Zh (show decide (x∈xs.take k)=false by simpa using hm);have HN:=Zh (permTo_succ hp.out HX.out (by rw [HL.out];omega) hm);clear hm;go_wp2_with fail;go_quiet (first | (go_at_call 58;exact Calls.quiet_of_same (q_l1In_t hin)) | (go_at_call 55;exact Calls.quiet_of_same (l1Has_isN HM.out (RdI.mk HT.out))))
     go_wp2;go_roundw
     case rel=>exact ⟨k+1,by go_num,Zo,HN,extX⟩
     case measure=>exact mq32
   .have HF:=Zh (permOk_out HX.out (by rw [HL.out];omega));have hbf:b=false:=by rw [← HB.out];exact HF.out
    subst hbf;go_wp2_with fail;go_quiet (first | (go_at_call 58;exact Calls.quiet_of_same (q_l1In_f hin)))
    go_wp2;go_ret;exact ⟨rfl,extX⟩
  .have hkn:k=n:=by omega
   subst hkn;by_cases h8:k≤8
   .have hbt:b=true:=by rw [← HB.out];exact permOk_all (by rw [HL.out];exact hp.out) (by rw [HL.out];exact h8)
    subst hbt;have h8i:(k:Int)≤8:=by omega
    go_wp2;go_ret;exact ⟨ret_bool (by simp),hE⟩
   .have hbf:b=false:=by rw [← HB.out];exact permOk_big (by rw [HL.out];omega)
    subst hbf;have h8i:¬ (k:Int)≤8:=by omega
    go_wp2;go_ret;exact ⟨ret_bool (by simp),hE⟩
def NewNs (w:World) (xs:List Int) (e:Ending) (w':World):Prop:=∃ A n c,e=.returned (.tuple #[.slice A n c,.bool (nextB xs)])∧(n≤c∧c≤9223372036854775807)∧(n=0∨∀ b o s,A=some ⟨b,o,s⟩→w.heap.size≤b)∧RI w' A n (nextV xs)∧Ext w w'
theorem NewNs.bad {w w':World} {A:Option Addr} {c:Nat} {xs:List Int} (h:nextB xs=false) (hE:Ext w w') (hc:c≤9223372036854775807:=by first | decide | omega):NewNs w xs (.returned (.tuple #[.slice A 0 c,.bool false])) w':=
 ⟨_,0,_,by rw [h],⟨Zo,hc⟩,.inl rfl,by rw [nextB_perm h];exact RI.nil _ _,hE⟩
theorem c_sNextRank {A:Option Addr} {n c:Nat} {xs:List Int} {w:World} (h0:RI w A n xs) (hc:n≤c∧c≤9223372036854775807):Calls Tryz.prog 33 #[.slice A n c] w (NewNs w xs):=by
 have hn:=h0.le;have HA:=Zh h0;have HL:=Zh h0.len;obtain ⟨i0,hii,hiz,his,hib⟩:=info_parts int64_info;clear h0;cases hok:permOk xs with
 | false=>
  have HOK:=Zh hok;have HBAD:=Zh (next_bad hok);clear hok;go_enter Tryz.func33,Tryz.ntmps33;go_wp2_with fail
  (with_reducible refine (c_l16Order HOK.out HA.out hc).mono ?_);rintro e w1 ⟨rfl,hE1⟩;go_wp2;refine bodyPost_ret (v:=.tuple #[.slice (some ⟨w1.heap.size,0,none⟩) 0 0,.bool false]) (by simp [results,Tryz.results33,go_sem]) rfl ?_;exact NewNs.bad HBAD.out.2 extX
 | true=>
  have hn8:n≤8:=by rw [← HL.out];exact (permOk_iff.1 hok).2.2
  have HOK:=Zh hok;clear hok;go_enter Tryz.func33,Tryz.ntmps33;go_wp2_with fail
  (with_reducible refine (c_l16Order HOK.out HA.out hc).mono ?_);rintro e w1 ⟨rfl,hE1⟩;go_wp2_with fail;go_loopw [4] (fun iv wr=>∃ (z:Int) (k:Nat),iv=.int .i64 z∧(z=(k:Int) - 1∨z = -2∧k=0)∧k≤n - 1∧Hid (upGo xs k=upAt xs∧fallsFrom xs k)∧Ext w wr) (fun iv _=>(intOf iv+2).toNat)
  case atStart=>exact ⟨(n:Int) - 2,n - 1,by go_num,Zo,Zo,Zh ⟨by rw [← HL.out];rfl,falls_last _ _ (by rw [HL.out];omega)⟩,extX⟩
  case round=>
   obtain ⟨z,k,rfl,hz,hk,hST,hE⟩:=hrel;rcases Nat.eq_zero_or_pos k with hk0 | hk0
   .subst hk0;have hzn:z < 0:=by omega
    have hzb:decide (0≤z)=false:=by simp;omega
    have HU:=Zh (next_none (xs:=xs) hST.out.1.symm);go_wp2_with fail;go_quiet (fail)
    go_wp2;refine bodyPost_ret (v:=.tuple #[.slice (some ⟨wr.heap.size,0,none⟩) 0 0,.bool false]) (by simp [results,Tryz.results33,go_sem]) rfl ?_;exact NewNs.bad HU.out.2 extX
   .obtain ⟨p,rfl⟩:∃ p,k=p+1:=⟨k - 1,Zo⟩;have hzp:z=(p:Int):=by omega
    subst hzp;have hp1:p+1 < n:=by omega
    obtain ⟨gb,ob,hA0⟩:=RI.head' HA.out Zo;subst hA0;obtain ⟨_,_,x,e1,hx,hcx⟩:=RI.at_ (RI.ext HA.out hE) (show p < n by omega);cases e1;obtain ⟨_,_,y,e1,hy,hcy⟩:=RI.at_ (RI.ext HA.out hE) hp1;cases e1;have HX:=Zh hx;have HY:=Zh hy;have hpz:(0:Int)≤(p:Int):=by omega
    have hpi:(p:Int) < (n:Int):=by omega
    have hpi1:(p:Int)+1 < (n:Int):=by omega
    have hwp:IntKind.i64.wrap ((p:Int)+1)=(p:Int)+1:=IntWalk.i64_in _ Zo;clear hx hy;by_cases hxy:y < x
    .have hd2:decide (y < x)=true:=by simpa using hxy
     have HN:=Zh (show upGo xs p=upAt xs∧fallsFrom xs p from ⟨by rw [← hST.out.1,upGo_go HX.out HY.out hxy],falls_down hST.out.2 HX.out HY.out hxy⟩);go_wp2_with fail;go_quiet (fail)
     go_wp2;go_roundw
     case rel=>exact ⟨(p:Int) - 1,p,by go_num,Zo,Zo,HN,extX⟩
     case measure=>exact mq32
    .have hd2:decide (y < x)=false:=by simpa using hxy
     have HUP:=Zh (show upAt xs=some p by rw [← hST.out.1,upGo_stop HX.out HY.out hxy]);go_wp2_with fail;go_quiet (fail)
     obtain ⟨wq,hwq⟩:∃ wq,wq=wr.drewN nq:=⟨_,rfl⟩;have hEq:Ext w wq:=by rw [hwq];exact hE.drewN _
     rw [← hwq];clear hwq;obtain ⟨k0,a0,b0,hN⟩:=nextI HOK.out HUP.out;have ha0:x=a0:=by have:=hN.ha;rw [HX.out] at this;exact Option.some.inj this
     subst ha0;have HNX:=Zh hN.nx;have HNV:=Zh (nextV_some HOK.out HUP.out hN);have HNB:=Zh (nextB_some HOK.out HUP.out);have hx0:0≤x:=((permOk_iff.1 HOK.out).2.1 x (List.mem_of_getElem? HX.out)).1;have HT:=Zh (RI.takeU (RI.ext HA.out hEq) (show p≤n by omega));have hpc:(p:Int)≤(c:Int):=by omega
     have hsq:=sz_of hEq;clear hN;go_wp2_with (at_builtin;go_loud (refine wpList_append_new rfl (.tmp 35) (.tmp 38) 27 rfl i0 Tryz.underlying27 hii hiz his hib (D:=w.heap.size) rfl (OwI.none0 hsq) rfl (RI.ext HT.out extX) (by go_size) ?_))
     intro A2 c2 w2 hO2 hg2 hat2;have HO2:=Zh hO2;have hE2:Ext w w2:=Ext.grown (Ext.alloc hEq _) hg2 (fun k hk=>by cases hk;exact hsq);clear hO2 hg2 hat2;go_wp2_with fail;go_loopw [6,7] (fun mv iv wr=>∃ q:Nat,iv=.int .i64 q∧p+1≤q∧q≤n∧(∃ m,mv=.int .i64 m∧Hid (leastTo xs x p q m))∧Ext w2 wr) (fun _ iv _=>n - (intOf iv).toNat)
     case atStart=>exact ⟨p+1,by go_num,Zo,Zo,⟨-1,rfl,Zh (leastTo_start xs x p)⟩,Ext.refl _⟩
     case round=>
      obtain ⟨q,rfl,hpq,hq,⟨m,rfl,hm⟩,hE3⟩:=hrel;obtain ⟨wo,rfl⟩:∃ wo:World,wo=wr:=⟨_,rfl⟩;have hEw:Ext w wo:=Ext.trans hE2 hE3;by_cases hlt:q < n
      .obtain ⟨_,_,y2,e1,hy2,hcy2⟩:=RI.at_ (RI.ext HA.out hEw) hlt;cases e1;obtain ⟨_,_,x2,e1,hx2,hcx2⟩:=RI.at_ (RI.ext HA.out hEw) (show p < n by omega);cases e1;rw [HX.out] at hx2;cases hx2;have HY2:=Zh hy2;have hqi:(q:Int) < (n:Int):=by omega
       have hq0:(0:Int)≤(q:Int):=by omega
       clear hy2;by_cases c1:x < y2
       .have d1:decide (x < y2)=true:=by simpa using c1
        by_cases c2':m < 0
        .have d2:decide (m < 0)=true:=by simpa using c2'
         have HN:=Zh (leastTo_take hm.out Zo HY2.out ⟨c1,.inl c2'⟩ hx0);go_wp2_with fail;go_quiet (fail)
         go_wp2;go_roundw
         case rel=>exact ⟨q+1,by go_num,Zo,Zo,⟨_,rfl,HN⟩,extX⟩
         case measure=>exact mq32
        .have d2:decide (m < 0)=false:=by simpa using c2'
         by_cases c3:y2 < m
         .have d3:decide (y2 < m)=true:=by simpa using c3
          have HN:=Zh (leastTo_take hm.out Zo HY2.out ⟨c1,.inr c3⟩ hx0);go_wp2_with fail;go_quiet (fail)
          go_wp2;go_roundw
          case rel=>exact ⟨q+1,by go_num,Zo,Zo,⟨_,rfl,HN⟩,extX⟩
          case measure=>exact mq32
         .have d3:decide (y2 < m)=false:=by simpa using c3
          have HN:=Zh (leastTo_skip hm.out hx0 HY2.out (fun h=>h.2.elim c2' c3));go_wp2_with fail;go_quiet (fail)
          go_wp2;go_roundw
          case rel=>exact ⟨q+1,by go_num,Zo,Zo,⟨_,rfl,HN⟩,extX⟩
          case measure=>exact mq32
       .have d1:decide (x < y2)=false:=by simpa using c1
        have HN:=Zh (leastTo_skip hm.out hx0 HY2.out (fun h=>c1 h.1));go_wp2_with fail;go_quiet (fail)
        go_wp2;go_roundw
        case rel=>exact ⟨q+1,by go_num,Zo,Zo,⟨_,rfl,HN⟩,extX⟩
        case measure=>exact mq32
      .have hqn:q=n:=by omega
       subst hqn;have hmb:m=b0:=by
        have h1:=HNX.out;have h2:(xs.take p).length=p:=by rw [List.length_take,HL.out];omega
        exact leastTo_end h1 (by rw [h2,HL.out];exact hm.out)
       subst hmb;have HO3:=Zh (HO2.out.ext hE3);go_wp2_with (at_builtin;go_loud (refine wpList_append_lies _ rfl (.tmp 73) (.tmp 75) 27 rfl w.heap.size 2 i0 (.int .i64 0) 1 8 Tryz.underlying27 hii hiz his hib rfl (by decide) _ _ _ rfl (OwI.alloc HO3.out _).2 ⟨wo.heap.size,0,none⟩ 1 1 [.int .i64 m] rfl rfl (one_cells _ _ _) (one_one _) (by decide) (by unfold maxLen;omega) Zo (by have:=sz_of hEw;go_size) _ rfl ?_))
       intro g4 cap4 w4 hown4 hg4 hat4 hltg4;have HO4:=Zh (show OwI w4 w.heap.size (some ⟨g4,0,none⟩) (p+1) cap4 (xs.take p++[m]) from ⟨Zo,by simpa using hown4⟩);have hob:=OwI.ob2 HO3.out;have hE4:Ext w w4:=Ext.grown (hEw.alloc _) hg4 (fun b hb=>(hob b hb).1);have hbl:(xs.take p++[m]).length≤9:=by rw [List.length_append,List.length_take];simp;omega
       clear hown4 hg4 hat4 hob;go_wp2_with fail;go_loopw [5,8] (fun ov iv wr=>∃ k:Nat,iv=.int .i64 k∧k≤q∧(∃ A6 n6 c6,ov=.slice A6 n6 c6∧n6≤9+k∧Hid (OwI wr w.heap.size A6 n6 c6 (fillTo (xs.take p++[m]) k)))∧Ext w wr) (fun _ iv _=>q - (intOf iv).toNat)
       case atStart=>exact ⟨0,rfl,Nat.zero_le _,⟨_,_,_,rfl,Zo,Zh (by rw [fillTo_zero];exact HO4.out)⟩,hE4⟩
       case round=>
        obtain ⟨k,rfl,hk2,⟨A6,n6,c6,rfl,hn6,hO6⟩,hE6⟩:=hrel;by_cases hlt2:k < q
        .have hki:(k:Int) < (q:Int):=by omega
         by_cases hin:(k:Int)∈xs.take p++[m]
         .have HM:=Zh (show decide ((k:Int)∈fillTo (xs.take p++[m]) k)=true by simp only [decide_eq_true_eq];exact fillTo_mem.2 hin);have HF:=Zh (fillTo_in hin);clear hin;go_wp2_with fail
          (with_reducible refine (l1Has_isN HM.out (RdI.mk hO6.out.ri)).mono ?_);rintro e w7 ⟨rfl,rfl⟩;go_wp2;go_roundw
          case rel=>exact ⟨k+1,by go_num,Zo,⟨_,_,_,rfl,Zo,Zh (by rw [HF.out];exact hO6.out)⟩,hE6⟩
          case measure=>exact mq32
         .have HM:=Zh (show decide ((k:Int)∈fillTo (xs.take p++[m]) k)=false by simp only [decide_eq_false_iff_not];exact fun h=>hin (fillTo_mem.1 h));have HF:=Zh (fillTo_new hin);clear hin;go_wp2_with fail
          (with_reducible refine (l1Has_isN HM.out (RdI.mk hO6.out.ri)).mono ?_);rintro e w7 ⟨rfl,hw7⟩;subst hw7;go_wp2_with (at_builtin;go_loud (refine wpList_append_lies _ rfl (.tmp 87) (.tmp 89) 27 rfl w.heap.size 2 i0 (.int .i64 0) 1 8 Tryz.underlying27 hii hiz his hib rfl (by decide) _ _ _ rfl (OwI.alloc hO6.out _).2 ⟨w7.heap.size,0,none⟩ 1 1 [.int .i64 (k:Int)] rfl rfl (one_cells _ _ _) (one_one _) (by decide) (by unfold maxLen;omega) Zo (by have:=sz_of hE6;go_size) _ rfl ?_))
          intro g8 cap8 w8 hown8 hg8 hat8 hltg8;have HO8:=Zh (show OwI w8 w.heap.size (some ⟨g8,0,none⟩) (n6+1) cap8 (fillTo (xs.take p++[m]) (k+1)) from ⟨Zo,by rw [HF.out];simpa using hown8⟩);have hob:=OwI.ob2 hO6.out;have hE8:Ext w w8:=Ext.grown (hE6.alloc _) hg8 (fun b hb=>(hob b hb).1);clear hown8 hg8 hat8 hob;go_wp2;go_roundw
          case rel=>exact ⟨k+1,by go_num,Zo,⟨_,_,_,rfl,Zo,HO8⟩,hE8⟩
          case measure=>exact mq32
        .have hkq:k=q:=by omega
         subst hkq;have HF:=Zh (show fillTo (xs.take p++[m]) k=nextV xs by rw [HNV.out,← HL.out];exact next_same HOK.out HNX.out);go_wp2;refine bodyPost_ret (v:=.tuple #[.slice A6 n6 c6,.bool true]) (by simp [results,Tryz.results33,go_sem]) rfl ?_;exact ⟨_,_,_,by rw [HNB.out],hO6.out.cap,.inr (fun b o s e=>(hO6.out.bd b o s e).1),by rw [← HF.out];exact hO6.out.ri,hE6⟩
end Go.Proofs.YtiblbnkpjmmjaaaGreat
namespace Go.Proofs.YtiblbnkpjmmjaaaGreat
def tri (a b:Int):Int:=if a * b≤20001 then a * b else 20001
def enc (w:Int):Int:=if 20000 < w then -1 else w
theorem prod_bd {a b:Int} (ha:1≤a) (ha2:a≤20001) (hb:1≤b) (hb2:b≤9):1≤a * b∧a * b≤180009:=by
 constructor
 .have:=Int.mul_le_mul ha hb Zo Zo;omega
 .have:=Int.mul_le_mul ha2 hb2 Zo Zo;omega
theorem tri_bd {a b:Int} (ha:1≤a) (ha2:a≤20001) (hb:1≤b) (hb2:b≤9):1≤tri a b∧tri a b≤20001:=by
 have:=prod_bd ha ha2 hb hb2;unfold tri;split<;>omega
def wAt (most:Int):Nat→Int
 | 0=>1
 | k+1=>tri (tri (wAt most k) (most+1)) (k+1)
def pIt (most:Int):Nat→Int→Int
 | 0,p=>p
 | n+1,p=>tri (pIt most n p) most
def pAt (most:Int) (ar:List Int):Int:=ar.foldl (fun p n=>pIt most n.toNat (tri p (most+1))) 1
theorem wAt_bd {most:Int} (h1:1≤most) (h2:most≤3):∀ k,k≤8→1≤wAt most k∧wAt most k≤20001
 | 0,_=>by simp [wAt]
 | k+1,hk=>by
  have h:=wAt_bd h1 h2 k Zo;have h3:=tri_bd h.1 h.2 (b:=most+1) Zo Zo;exact tri_bd h3.1 h3.2 Zo Zo
theorem pIt_bd {most p:Int} (h1:1≤most) (h2:most≤3) (hp:1≤p∧p≤20001):∀ n,1≤pIt most n p∧pIt most n p≤20001
 | 0=>hp
 | n+1=>by
  have h:=pIt_bd h1 h2 hp n;exact tri_bd h.1 h.2 Zo Zo
theorem pAt_snoc (most:Int) (ar:List Int) (n:Int):pAt most (ar++[n])=pIt most n.toNat (tri (pAt most ar) (most+1)):=by simp [pAt,List.foldl_append]
theorem pAt_bd {most:Int} (h1:1≤most) (h2:most≤3) (ar:List Int):1≤pAt most ar∧pAt most ar≤20001:=by
 have:∀ (l:List Int) (p:Int),(1≤p∧p≤20001)→1≤l.foldl (fun p n=>pIt most n.toNat (tri p (most+1))) p∧l.foldl (fun p n=>pIt most n.toNat (tri p (most+1))) p≤20001:=by
  intro l
  induction l with
  | nil=>intro p hp;exact hp
  | cons n l ih=>intro p hp;exact ih _ (pIt_bd h1 h2 (tri_bd hp.1 hp.2 Zo Zo) _)
 exact this ar 1 Zo
def triW (ar:List Int) (most:Int):Int:=if sigOk ar=true∧1≤most∧most≤3 then enc (wAt most ar.length) else -1
def triP (ar:List Int) (most:Int):Int:=if sigOk ar=true∧1≤most∧most≤3 then enc (pAt most ar) else -1

