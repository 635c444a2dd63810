/- -/
import Derived.Test.YtiblbnkpjmmjaaaGreatQ23
set_option maxRecDepth 100000
set_option maxHeartbeats 16000000
set_option linter.all false
namespace Go.Proofs.YtiblbnkpjmmjaaaGreat
open Go.RowKit
theorem LC.below {X:LC} (hP:X.P):∀ N,X.Below N
 | 0=>fun i j _ _ h=>by omega
 | N+1=>fun i j hi hj h=>c_isGreater hP (c_find hP (c_bagArgs X) hi hj fun a b ha hb hab=>LC.below hP N a b ha hb Zo) hi hj
theorem c_reason0 {X:LC} {w:World} (hP:X.P) (h:X.H w):Calls Tryz.prog 118 #[.pointer (some ⟨X.g,0,none⟩),.int .i64 0,.int .i64 0] w (X.Tell 0 0 w (.int .i8 (X.W 0 0:Int))):=
 c_reason (i:=0) (j:=0) hP (c_find hP (c_bagArgs X) hP.tt.2.1.1 hP.ts.2.1.1 fun a b ha hb hab=>LC.below hP _ a b ha hb hab) h hP.tt.2.1.1 hP.ts.2.1.1
theorem zeroPaths:Tryz.zeroCells157.toList=[Value.slice none 0 0,.slice none 0 0,.nilIface,.slice none 0 0,.slice none 0 0]++List.replicate 3600 (.int .i8 0):=Zk
theorem zeroPaths_at {k:Nat} (h:k < 3600):Tryz.zeroCells157[5+k]?=some (.int .i8 0):=by
 rw [← Array.getElem?_toList,zeroPaths,List.getElem?_append_right (by simp),List.getElem?_replicate];simp;omega
theorem zeroPaths_size:Tryz.zeroCells157.size=3605:=Tryz.zeroCells157_size
theorem paths_cells {Z:Array Value} (hz:Z.size=3605) (h0:∀ k,k < 3600→Z[5+k]?=some (.int .i8 0)) (v0 v1 v2 v3 v4:Value) :
 let C:=((((Z.setIfInBounds 0 v0).setIfInBounds 1 v1).setIfInBounds 2 v2).setIfInBounds 3 v3).setIfInBounds 4 v4
 C[0]?=some v0∧C[1]?=some v1∧C[2]?=some v2∧C[3]?=some v3∧C[4]?=some v4∧∀ k,k < 3600→C[5+k]?=some (.int .i8 0):=by
 intro C;refine ⟨?_,?_,?_,?_,?_,fun k hk=>?_⟩
 .simp [C,Array.getElem?_setIfInBounds,hz]
 .simp [C,Array.getElem?_setIfInBounds,hz]
 .simp [C,Array.getElem?_setIfInBounds,hz]
 .simp [C,Array.getElem?_setIfInBounds,hz]
 .simp [C,Array.getElem?_setIfInBounds,hz]
 .show ((((((Z.setIfInBounds 0 v0).setIfInBounds 1 v1).setIfInBounds 2 v2).setIfInBounds 3 v3).setIfInBounds 4 v4))[5+k]?=_;rw [Array.getElem?_setIfInBounds_ne Zo,Array.getElem?_setIfInBounds_ne Zo,Array.getElem?_setIfInBounds_ne Zo,Array.getElem?_setIfInBounds_ne Zo,Array.getElem?_setIfInBounds_ne Zo];exact h0 k hk
theorem c_pathWhy {ar rk t s:List Int} {lex:Bool} {T:TypeId} {A:Option Addr} {n c:Nat} {R:Option Addr} {rn rc:Nat} {B:Option Addr} {m d:Nat} {D:Option Addr} {k l:Nat} {w:World} (hT:(if lex=true then 95 else 96)=T) (hs:SigP ar) (hrl:rk.length=ar.length) (ht:TermP ar t) (hss:TermP ar s)
 (ha:RI w A n ar) (hr:RI w R rn rk) (hB:RI w B m t) (hD:RI w D k s) (hmd:m≤d∧d≤9223372036854775807) (hkl:k≤l∧l≤9223372036854775807) :
 Calls Tryz.prog 109 #[.agg #[.slice A n c],.slice R rn rc,.slice D k l,.slice B m d,.iface T (.agg #[])] w fun e w'=>e=.returned (.int .i64 (lpoW (rkF rk) lex (subT ar t 0) (subT ar s 0):Int))∧Ext w w':=by
 have hn1:0 < n:=by rw [← ha.len];exact hs.1
 have hrn:rn=n:=by rw [← ha.len,← hr.len,hrl]
 subst hrn;have hm1:0 < m:=by rw [← hB.len];exact ht.2.1.1
 have hk1:0 < k:=by rw [← hD.len];exact hss.2.1.1
 obtain ⟨ab,ao,_,rfl,_,hca⟩:=RI.at_ ha hn1;obtain ⟨rb,ro,_,rfl,_,hcr⟩:=RI.at_ hr hn1;obtain ⟨tb,tq,_,rfl,_,hct⟩:=RI.at_ hB hm1;obtain ⟨sb,so,_,rfl,_,hcs⟩:=RI.at_ hD hk1;have hab:ab < w.heap.size:=World.block_lt_of_cell? w _ hca;have hrb:rb < w.heap.size:=World.block_lt_of_cell? w _ hcr;have htb:tb < w.heap.size:=World.block_lt_of_cell? w _ hct;have hsb:sb < w.heap.size:=World.block_lt_of_cell? w _ hcs;obtain ⟨Z,hZ⟩:∃ Z,Z=Tryz.zeroCells157:=⟨_,rfl⟩;have HZ:=Zh hZ;have HA:=Zh ha;have HR:=Zh hr;have HB:=Zh hB;have HD:=Zh hD;have HT:=Zh hT;have HP:=Zh (show LC.P ⟨ab,ao,rn,c,rb,ro,rc,tb,tq,m,d,sb,so,k,l,w.heap.size+1,ar,rk,t,s,lex⟩ from ⟨hs,ht,hss,hrl,hmd,hkl⟩);clear ha hr hB hD hca hcr hct hcs hT hs ht hss hrl hmd hkl hZ;obtain ⟨V,hV⟩:∃ V:Nat,V=lpoW (rkF rk) lex (subT ar t 0) (subT ar s 0):=⟨_,rfl⟩;have hV3:V≤3:=by rw [hV];exact lpoW_le _ _ _ _
 have HV:=Zh hV;rw [← hV];clear hV;go_enter Tryz.func109,Tryz.ntmps109;go_wp2_with fail;rw [← HZ.out];obtain ⟨W0,hW0⟩:∃ W0,W0=((w.alloc (.cells #[.slice (some ⟨ab,ao,none⟩) rn c] 29)).alloc (.cells (((((Z.setIfInBounds 0 (.slice (some ⟨ab,ao,none⟩) rn c)).setIfInBounds 1 (.slice (some ⟨rb,ro,none⟩) rn rc)).setIfInBounds 2 (.iface T (.agg #[]))).setIfInBounds 3 (.slice (some ⟨tb,tq,none⟩) m d)).setIfInBounds 4 (.slice (some ⟨sb,so,none⟩) k l)) 157)):=⟨_,rfl⟩;have hE0:Ext w W0:=by rw [hW0];exact extX
 have hh0:W0.heap[w.heap.size+1]?=some (.cells (((((Z.setIfInBounds 0 (.slice (some ⟨ab,ao,none⟩) rn c)).setIfInBounds 1 (.slice (some ⟨rb,ro,none⟩) rn rc)).setIfInBounds 2 (.iface T (.agg #[]))).setIfInBounds 3 (.slice (some ⟨tb,tq,none⟩) m d)).setIfInBounds 4 (.slice (some ⟨sb,so,none⟩) k l)) 157 (0,0)):=by
  rw [hW0];have:=heap_alloc_new (w.alloc (.cells #[.slice (some ⟨ab,ao,none⟩) rn c] 29)) (.cells (((((Z.setIfInBounds 0 (.slice (some ⟨ab,ao,none⟩) rn c)).setIfInBounds 1 (.slice (some ⟨rb,ro,none⟩) rn rc)).setIfInBounds 2 (.iface T (.agg #[]))).setIfInBounds 3 (.slice (some ⟨tb,tq,none⟩) m d)).setIfInBounds 4 (.slice (some ⟨sb,so,none⟩) k l)) 157)
  rwa [World.size_alloc] at this
 rw [← hW0];clear hW0;have hcell:=fun o=>cell_of_row W0 (w.heap.size+1) o _ _ (0,0) hh0;have hfr:∀ o,W0.frozen? ⟨w.heap.size+1,o,none⟩=false:=fun o=>frozen_of_row W0 _ _ _ _ hh0;obtain ⟨e0,e1,e2,e3,e4,e5⟩:=paths_cells (Z:=Z) (by rw [HZ.out];exact zeroPaths_size) (fun k hk=>by rw [HZ.out];exact zeroPaths_at hk) (.slice (some ⟨ab,ao,none⟩) rn c) (.slice (some ⟨rb,ro,none⟩) rn rc) (.iface T (.agg #[])) (.slice (some ⟨tb,tq,none⟩) m d) (.slice (some ⟨sb,so,none⟩) k l)
 have HH:=Zh (show LC.H ⟨ab,ao,rn,c,rb,ro,rc,tb,tq,m,d,sb,so,k,l,w.heap.size+1,ar,rk,t,s,lex⟩ W0 from
  ⟨HA.out.ext hE0,HR.out.ext hE0,HB.out.ext hE0,HD.out.ext hE0,by show ab≠w.heap.size+1;omega,by show rb≠w.heap.size+1;omega,by show tb≠w.heap.size+1;omega,by show sb≠w.heap.size+1;omega,
   (hcell 0).trans e0,(hcell 1).trans e1,(hcell 2).trans (by rw [e2];unfold LC.by_;simp only;rw [HT.out]),(hcell 3).trans e3,(hcell 4).trans e4,
   fun i j hi hj=>⟨0,by show W0.cell? ⟨w.heap.size+1,5+i * 60+j,none⟩=_;rw [hcell,Nat.add_assoc];exact e5 _ Zo,.inl rfl⟩,hfr⟩)
 clear hcell hfr e0 e1 e2 e3 e4 e5 hh0;have HC:=Zh (c_reason0 HP.out HH.out);have HC2:Hid (Calls Tryz.prog 118 #[.pointer (some ⟨w.heap.size+1,0,none⟩),.int .i64 0,.int .i64 0] W0 fun e w'=>e=.returned (.int .i8 (V:Int))∧Only W0 w' (w.heap.size+1)):=Zh (HC.out.mono fun e w' h=>⟨by rw [h.1,HV.out];rfl,h.2.2⟩);clear HC HH
 (with_reducible refine HC2.out.mono ?_);rintro e w2 ⟨rfl,hO2⟩;have hE2:Ext w w2:=Only.ext hO2 hE0 Zo;go_wp2;go_ret;exact ⟨rfl,hE2⟩
theorem c_pathWhyO {v0 v1 v2 v3:Value} {ar rk s t:List Int} {lex:Bool} {T:TypeId} {V:Nat} {w:World} (hT:(if lex=true then 95 else 96)=T) (hok:lpoArgs ar rk s t=true) (hV:V=lpoA ar rk lex s t)
 (h0:RdSig w v0 ar) (h1:RdI w v1 rk) (h2:RdIc w v2 s) (h3:RdIc w v3 t) :
 Calls Tryz.prog 109 #[v0,v1,v2,v3,.iface T (.agg #[])] w fun e w'=>e=.returned (.int .i64 (V:Int))∧Ext w w':=by
 obtain ⟨A,n,c,rfl,ha⟩:=h0;obtain ⟨R,rn,rc,rfl,hr⟩:=h1;obtain ⟨D,k,l,rfl,hkl,hd⟩:=h2;obtain ⟨B,m,d,rfl,hmd,hb⟩:=h3;obtain ⟨⟨g1,g2⟩,g3,g4,g5⟩:=lpoArgs_iff.1 hok;subst hV;exact c_pathWhy hT g3 g4 g2 g1 ha hr hb hd hmd hkl
theorem mq24 {p:Prop} (h:p:=by simp only [intOf];omega):p:=h
theorem z15q24 {p:Prop} (h:p:=by (first | (first | (with_reducible exact RdI.mk (RI.ext (Hid.out (by with_reducible assumption)) extX)) | (with_reducible exact RdI.ext (by with_reducible assumption) extX)) | (with_reducible exact RdSyK.mk (by (first | (with_reducible exact RI.ext (Hid.out (by with_reducible assumption)) extX))) (RR.ext (Hid.out (by with_reducible assumption)) extX)) | (with_reducible exact RdSyK.ext (by with_reducible assumption) extX) | (with_reducible exact RdSig.mk (by (first | (with_reducible exact RI.ext (Hid.out (by with_reducible assumption)) extX)))) | (with_reducible exact RdSig.ext (by with_reducible assumption) extX))):p:=h
theorem c_orients {v0 v1:Value} {s:Sy} {rk:List Int} {lex:Bool} {T:TypeId} {w:World} (hT:(if lex=true then 95 else 96)=T) (h0:RdSyC w v0 s) (h1:RdI w v1 rk) :
 Calls Tryz.prog 89 #[v0,v1,.iface T (.agg #[])] w fun e w'=>e=.returned (.bool (orientsV lex s rk))∧Ext w w':=by
 obtain ⟨A,n,c,B,m,d,rfl,ha,hb⟩:=h0;obtain ⟨R,q,f,rfl,hrk⟩:=h1;have hm:=hb.le;have HL:=Zh hb.len;have HA:=Zh ha;have HB:=Zh hb;have HRK:=Zh hrk;have HT:=Zh hT;clear ha hb hrk hT;cases hs:sysOk s with
 | false=>
  have HR:=Zh (orientsV_sys (lex:=lex) (rk:=rk) hs);go_enter Tryz.func89,Tryz.ntmps89;go_wp2_with (go_at_call 19;(with_reducible refine (c_iSystemOk (s:=s) z15q24).mono ?_);rintro e w1 ⟨rfl,hE1⟩;have hz1:=Zs hE1;obtain ⟨hc1,hf1⟩:=bcell hE1;(try have hq1_0:w.heap.size < w1.heap.size:=Zo))
  go_ret;exact ⟨ret_bool HR.out.symm,extX⟩
 | true=>
  cases hk:rankOk s.ar rk with
  | false=>
   have HR:=Zh (orientsV_rank (lex:=lex) hs hk);go_enter Tryz.func89,Tryz.ntmps89
   go_wp2_with (first
    | (go_at_call 19;(with_reducible refine (c_iSystemOk (s:=s) z15q24).mono ?_);rintro e w1 ⟨rfl,hE1⟩;have hz1:=Zs hE1;obtain ⟨hc1,hf1⟩:=bcell hE1;(try have hq1_0:w.heap.size < w1.heap.size:=Zo))
    | (go_at_call 48;(with_reducible refine (c_iRankOk (ar:=s.ar) (rk:=rk) z15q24 z15q24).mono ?_);rintro e w2 ⟨rfl,hE2⟩;have hz2:=Zs hE2;obtain ⟨hc2,hf2⟩:=bcell hE2))
   go_ret;exact ⟨ret_bool HR.out.symm,extX⟩
  | true=>
   have HR0:=Zh (orientsV_all (lex:=lex) hs hk);have HS:=Zh (sysOk_iff.1 hs);have HK:=Zh hk;clear hs hk;have hsok:sysOk s=true:=sysOk_iff.2 HS.out;have hkok:rankOk s.ar rk=true:=HK.out;go_enter Tryz.func89,Tryz.ntmps89;go_wp2_with fail
   (with_reducible refine (c_iSystemOk (s:=s) z15q24).mono ?_);rintro e w1 ⟨rfl,hE1⟩;have hz1:=Zs hE1;obtain ⟨hc1,hf1⟩:=bcell hE1;(try have hq1_0:w.heap.size < w1.heap.size:=Zo);have hs0:w1.cell? ⟨w.heap.size,0,none⟩=some (.slice A n c):=Ext.keep hE1 (by simp [go_sem]);have hs1:w1.cell? ⟨w.heap.size,1,none⟩=some (.slice B m d):=Ext.keep hE1 (by simp [go_sem]);go_wp2_with fail
   (with_reducible refine (c_iRankOk (ar:=s.ar) (rk:=rk) z15q24 z15q24).mono ?_);rintro e w2 ⟨rfl,hE2⟩;have hz2:=Zs hE2;obtain ⟨hc2,hf2⟩:=bcell hE2;have hw0:w2.cell? ⟨w.heap.size,0,none⟩=some (.slice A n c):=Ext.keep hE2 hs0;have hw1:w2.cell? ⟨w.heap.size,1,none⟩=some (.slice B m d):=Ext.keep hE2 hs1;have hEo:Ext w w2:=extX;go_wp2_with fail;go_loopw [22] (fun i wr=>∃ k:Nat,i=.int .i64 k∧k≤m∧Hid (∀ (j:Nat) (r:Ru),j < k→s.rs[j]?=some r→lpoA s.ar rk lex r.r r.l≠0)∧Ext w2 wr) (fun i _=>m - (intOf i).toNat)
   case atStart=>exact ⟨0,rfl,Nat.zero_le _,Zh fun j y hj=>Zo,Ext.refl _⟩
   case round=>
    obtain ⟨k,rfl,hk,hp,hE9⟩:=hrel;have hw:Ext w wr:=Ext.trans hEo hE9;have hr0:wr.cell? ⟨w.heap.size,0,none⟩=some (.slice A n c):=Ext.keep hE9 hw0;have hr1':wr.cell? ⟨w.heap.size,1,none⟩=some (.slice B m d):=Ext.keep hE9 hw1;have hws0:w.heap.size < wr.heap.size:=World.block_lt_of_cell? wr _ hr0;by_cases hlt:k < m
    .obtain ⟨b,o,r,A1,m1,c1,A2,m2,c2,rfl,hx,hd1,hd2,hr1,hr5,hcap1,hcap2⟩:=RR.at_ (RR.ext HB.out hw) hlt;have HX:=Zh hx;have HR1:=Zh hr1;have HR2:=Zh hr5;have HC1:=Zh (hcap1 rfl);have HC2:=Zh (hcap2 rfl);have HOK:=Zh (lpoArgs_rule HS.out HK.out hx);clear hx hr1 hr5 hcap1 hcap2;have hlt':(k:Int) < (m:Int):=by omega
     obtain ⟨V,hV⟩:∃ V,V=lpoA s.ar rk lex r.r r.l:=⟨_,rfl⟩;have HV:=Zh hV;clear hV;by_cases hz:V=0
     .have HR:=Zh (lpAll_f (lex:=lex) (rk:=rk) HX.out (HV.out.symm.trans hz));have hzb:((V:Int) == 0)=true:=by rw [hz];rfl
      clear hz;go_wp2_with fail
      (with_reducible refine (c_pathWhyO HT.out HOK.out HV.out (RdSig.mk (RI.ext HA.out extX)) (RdI.mk (RI.ext HRK.out extX)) (RdIc.mk HC2.out (RI.ext HR2.out extX)) (RdIc.mk HC1.out (RI.ext HR1.out extX))).mono ?_);rintro e w5 ⟨rfl,hE5⟩;go_wp2;go_ret;exact ⟨ret_bool (by rw [HR0.out,HR.out]),extX⟩
     .have hzb:((V:Int) == 0)=false:=by simp;exact hz
      have HP:=Zh (show ∀ (j:Nat) (r:Ru),j < k+1→s.rs[j]?=some r→lpoA s.ar rk lex r.r r.l≠0 from fun j y hj e=>by
       rcases Nat.lt_or_ge j k with h' | h'
       .exact hp.out j y h' e
       .obtain rfl:j=k:=by omega
        rw [HX.out] at e;cases e;rw [← HV.out];exact hz)
      clear hz;go_wp2_with fail
      (with_reducible refine (c_pathWhyO HT.out HOK.out HV.out (RdSig.mk (RI.ext HA.out extX)) (RdI.mk (RI.ext HRK.out extX)) (RdIc.mk HC2.out (RI.ext HR2.out extX)) (RdIc.mk HC1.out (RI.ext HR1.out extX))).mono ?_);rintro e w5 ⟨rfl,hE5⟩;go_wp2;go_roundw
      case rel=>exact ⟨k+1,by go_num,Zo,HP,extX⟩
      case measure=>exact mq24
    .have HR:=Zh (lpAll_t (s:=s) (rk:=rk) (lex:=lex) fun j r hj e=>hp.out j r (by rw [HL.out] at hj;omega) e);go_wp2;go_ret;exact ⟨ret_bool (by rw [HR0.out,HR.out]),extX⟩
end Go.Proofs.YtiblbnkpjmmjaaaGreat
namespace Go.Proofs.YtiblbnkpjmmjaaaGreat
open Go.Conc
set_option maxRecDepth 100000
theorem lit34 {T:Array Value} (h:T.size=34):∃ x0 x1 x2 x3 x4 x5 x6 x7 x8 x9 x10 x11 x12 x13 x14 x15 x16 x17 x18 x19 x20 x21 x22 x23 x24 x25 x26 x27 x28 x29 x30 x31 x32 x33:Value,T=#[x0,x1,x2,x3,x4,x5,x6,x7,x8,x9,x10,x11,x12,x13,x14,x15,x16,x17,x18,x19,x20,x21,x22,x23,x24,x25,x26,x27,x28,x29,x30,x31,x32,x33]:=by
 obtain ⟨l⟩:=T;rcases l with _ | ⟨x0,l⟩
 .simp at h
 rcases l with _ | ⟨x1,l⟩
 .simp at h
 rcases l with _ | ⟨x2,l⟩
 .simp at h
 rcases l with _ | ⟨x3,l⟩
 .simp at h
 rcases l with _ | ⟨x4,l⟩
 .simp at h
 rcases l with _ | ⟨x5,l⟩
 .simp at h
 rcases l with _ | ⟨x6,l⟩
 .simp at h
 rcases l with _ | ⟨x7,l⟩
 .simp at h
 rcases l with _ | ⟨x8,l⟩
 .simp at h
 rcases l with _ | ⟨x9,l⟩
 .simp at h
 rcases l with _ | ⟨x10,l⟩
 .simp at h
 rcases l with _ | ⟨x11,l⟩
 .simp at h
 rcases l with _ | ⟨x12,l⟩
 .simp at h
 rcases l with _ | ⟨x13,l⟩
 .simp at h
 rcases l with _ | ⟨x14,l⟩
 .simp at h
 rcases l with _ | ⟨x15,l⟩
 .simp at h
 rcases l with _ | ⟨x16,l⟩
 .simp at h
 rcases l with _ | ⟨x17,l⟩
 .simp at h
 rcases l with _ | ⟨x18,l⟩
 .simp at h
 rcases l with _ | ⟨x19,l⟩
 .simp at h
 rcases l with _ | ⟨x20,l⟩
 .simp at h
 rcases l with _ | ⟨x21,l⟩
 .simp at h
 rcases l with _ | ⟨x22,l⟩
 .simp at h
 rcases l with _ | ⟨x23,l⟩
 .simp at h
 rcases l with _ | ⟨x24,l⟩
 .simp at h
 rcases l with _ | ⟨x25,l⟩
 .simp at h
 rcases l with _ | ⟨x26,l⟩
 .simp at h
 rcases l with _ | ⟨x27,l⟩
 .simp at h
 rcases l with _ | ⟨x28,l⟩
 .simp at h
 rcases l with _ | ⟨x29,l⟩
 .simp at h
 rcases l with _ | ⟨x30,l⟩
 .simp at h
 rcases l with _ | ⟨x31,l⟩
 .simp at h
 rcases l with _ | ⟨x32,l⟩
 .simp at h
 rcases l with _ | ⟨x33,l⟩
 .simp at h
 rcases l with _ | ⟨x,l⟩
 .exact ⟨x0,x1,x2,x3,x4,x5,x6,x7,x8,x9,x10,x11,x12,x13,x14,x15,x16,x17,x18,x19,x20,x21,x22,x23,x24,x25,x26,x27,x28,x29,x30,x31,x32,x33,rfl⟩
 .simp at h
noncomputable def bodyF:Code:=Tryz.f63.body.getD .skip
noncomputable def pF0:Code:=match bodyF with | .seq r _=>r | _=>.skip
noncomputable def pF1:Code:=match bodyF with | .seq _ (.seq r _)=>r | _=>.skip
noncomputable def pF3:Code:=match bodyF with | .seq _ (.seq _ (.seq r _))=>r | _=>.skip
noncomputable def pF4:Code:=match bodyF with | .seq _ (.seq _ (.seq _ (.seq r _)))=>r | _=>.skip
noncomputable def pF5:Code:=match bodyF with | .seq _ (.seq _ (.seq _ (.seq _ (.seq r _))))=>r | _=>.skip
noncomputable def pF6:Code:=match bodyF with | .seq _ (.seq _ (.seq _ (.seq _ (.seq _ (.seq (.seq r _) _)))))=>r | _=>.skip
noncomputable def pFL:Code:=match bodyF with | .seq _ (.seq _ (.seq _ (.seq _ (.seq _ (.seq (.seq _ (.block _ (.loop r))) _)))))=>r | _=>.skip
noncomputable def pFE:Code:=match bodyF with | .seq _ (.seq _ (.seq _ (.seq _ (.seq _ (.seq _ (.seq r _))))))=>r | _=>.skip
noncomputable def pL7:Code:=match pFL with | .seq r _=>r | _=>.skip
noncomputable def pL8:Code:=match pFL with | .seq _ (.seq _ (.block _ r))=>r | _=>.skip
theorem bodyF_eq:bodyF=.seq pF0 (.seq pF1 (.seq pF3 (.seq pF4 (.seq pF5 (.seq (.seq pF6 (.block 0 (.loop pFL))) (.seq pFE .ret)))))):=by simp only [pF0,pF1,pF3,pF4,pF5,pF6,pFL,pFE,bodyF,Tryz.f63,Option.getD_some]
theorem pFL_eq:pFL=.seq pL7 (.seq (.cond (.tmp 20) .skip (.exit 0)) (.block 1 pL8)):=by simp only [pL7,pL8,pFL,bodyF,Tryz.f63,Option.getD_some]
theorem c_sysF {k0:Bool} {v:Value} {s:Sy} {w:World} {b:Bool} (hb:sysOk s=b) (h0:RdSyK k0 w v s) :
 Calls Tryz.prog 19 #[v] w fun e w'=>e=.returned (.bool b)∧Ext w w':=
 (c_iSystemOk h0).mono fun _ _ ⟨he,hw⟩=>⟨he.trans (ret_bool hb),hw⟩
theorem c_orF {v0 v1:Value} {s:Sy} {rk:List Int} {lex b:Bool} {T:TypeId} {w:World} (hT:(if lex=true then 95 else 96)=T) (hb:orientsV lex s rk=b) (h0:RdSyC w v0 s) (h1:RdI w v1 rk) :
 Calls Tryz.prog 89 #[v0,v1,.iface T (.agg #[])] w fun e w'=>e=.returned (.bool b)∧Ext w w':=
 (c_orients hT h0 h1).mono fun _ _ ⟨he,hw⟩=>⟨he.trans (ret_bool hb),hw⟩
def Fp (T:TypeId) (s:Sy) (v00:World) (a:Act) (v:World):Prop:=
 a.tmps.size=34∧a.tmps[1]?=some (.iface T (.agg #[]))∧Hx v00 v∧∃ q A n c B m d,a.tmps[2]?=some (.pointer (some ⟨q,0,none⟩))∧v.cell? ⟨q,0,none⟩=some (.slice A n c)∧v.cell? ⟨q,1,none⟩=some (.slice B m d)∧RI v A n s.ar∧RR true v B m s.rs
theorem Fp.ins {T:TypeId} {s:Sy} {v00:World}:Ins (Fp T s v00):=fun a v τ d h=>h
def lit2 (x0 x1:Value):Act:={ tmps:=#[x0,x1,undef,undef,undef,undef,undef,undef,undef,undef,undef,undef,undef,undef,undef,undef,undef,undef,undef,undef,undef,undef,undef,undef,undef,undef,undef,undef,undef,undef,undef,undef,undef,undef],defers:=[] }
section
variable {v:World} {A B:Option Addr} {n c m d:Nat} {s:Sy} {T:TypeId}
theorem wF0 {v00:World} (hH:Hx v00 v) (ha:RI v A n s.ar) (hb:RR true v B m s.rs):pF0.wp Tryz.prog (fun e a' v'=>(e=.normal∧Fp T s v00 a' v')∨(e=.ret∧False)) (lit2 (.agg #[.slice A n c,.slice B m d]) (.iface T (.agg #[]))) v:=by
 simp only [pF0,bodyF,Tryz.f63,Option.getD_some,lit2];go_wp2;refine ⟨rfl,rfl,hH.trans (Hx.ext ((Ext.refl v).alloc _)),v.heap.size,A,n,c,B,m,d,rfl,by simp [go_sem],by simp [go_sem],ha.ext ((Ext.refl v).alloc _),hb.ext ((Ext.refl v).alloc _)⟩
theorem wF1 {v00:World} {a:Act} (h:Fp T s v00 a v) (hd:a.defers=[]):pF1.wp Tryz.prog (fun e a' v'=>(e=.normal∧Fp T s v00 a' v'∧sysOk s=true)∨(e=.ret∧a'.tmps.size=34∧a'.tmps[4]?=some (.slice none 0 0)∧a'.tmps[5]?=some (.bool false)∧sysOk s=false∧Hx v00 v')) a v:=by
 obtain ⟨hsz,h1,hH,q,A,n,c,B,m,d,h2,bx0,bx1,ha,hb⟩:=h;obtain ⟨tm,df⟩:=a;simp only at hd hsz h1 h2;subst hd;obtain ⟨x0,x1,x2,x3,x4,x5,x6,x7,x8,x9,x10,x11,x12,x13,x14,x15,x16,x17,x18,x19,x20,x21,x22,x23,x24,x25,x26,x27,x28,x29,x30,x31,x32,x33,hTm⟩:=lit34 hsz;subst hTm;simp at h1 h2;subst h1;subst h2;simp only [pF1,bodyF,Tryz.f63,Option.getD_some];have HA:=Zh ha;have HB:=Zh hb;have HH:=Zh hH;clear ha hb hH;cases hok:sysOk s with
 | true=>
  go_wp2_with fail
  (with_reducible refine (c_sysF hok (RdSyK.mk HA.out HB.out)).mono ?_);rintro e w1 ⟨rfl,hE1⟩;go_wp2
  have hF:∀ x y z,Fp T s v00 ⟨#[x0,.iface T (.agg #[]),.pointer (some ⟨q,0,none⟩),x3,x4,x5,x6,x7,x8,x,y,z,x12,x13,x14,x15,x16,x17,x18,x19,x20,x21,x22,x23,x24,x25,x26,x27,x28,x29,x30,x31,x32,x33],[]⟩ w1:=
   fun x y z=>⟨rfl,rfl,HH.out.trans (Hx.ext hE1),q,A,n,c,B,m,d,rfl,Ext.keep hE1 bx0,Ext.keep hE1 bx1,HA.out.ext hE1,HB.out.ext hE1⟩
  first | exact hF _ _ _ | exact ⟨hF _ _ _,rfl⟩ | exact ⟨hF _ _ _,hok⟩
 | false=>
  go_wp2_with fail
  (with_reducible refine (c_sysF hok (RdSyK.mk HA.out HB.out)).mono ?_);rintro e w1 ⟨rfl,hE1⟩;go_wp2
  first | exact HH.out.trans (Hx.ext hE1) | exact ⟨rfl,rfl,rfl,HH.out.trans (Hx.ext hE1)⟩ | exact ⟨rfl,rfl,rfl,rfl,HH.out.trans (Hx.ext hE1)⟩
def Fnd (B0:Nat) (a:Act) (v:World):Option (List Int)→Prop
 | none=>a.tmps[7]?=some (.slice none 0 0)
 | some us=>∃ b n cp,a.tmps[7]?=some (.slice (some ⟨b,0,none⟩) n cp)∧OwI v B0 (some ⟨b,0,none⟩) n cp us
noncomputable def fndN (lex:Bool) (s:Sy) (us:List Int):Option (List Int)→Option (List Int)
 | some x=>some x
 | none=>if orientsV lex s us=true then some us else none
def Rv (T:TypeId) (s:Sy) (v00:World) (Z:Value) (fnd:Option (List Int)) (a:Act) (v:World):Prop:=Fp T s v00 a v∧a.tmps[18]?=some Z∧Fnd v00.heap.size a v fnd
theorem Rv.ins {v00:World} {Z:Value} {fnd:Option (List Int)}:Ins (Rv T s v00 Z fnd):=fun a v τ d h=>by
 cases fnd<;>exact h
theorem wL8 {v00:World} {a:Act} {Z:Value} {fnd:Option (List Int)} {us:List Int} {lex:Bool} {k cp:Nat} (hT:(if lex=true then 95 else 96)=T) (h:Rv T s v00 Z fnd a v) (hd:a.defers=[])
 (h19:a.tmps[19]?=some (.tuple #[.slice (some ⟨k,0,none⟩) us.length cp,.bool true])) (hO:OwI v v00.heap.size (some ⟨k,0,none⟩) us.length cp us) :
 pL8.wp Tryz.prog (fun e a' v'=>(e=.normal∧Rv T s v00 Z (fndN lex s us fnd) a' v')∨(e=.ret∧False)) a v:=by
 obtain ⟨⟨hsz,h1,hH,q,A,n,c,B,m,d,h2,bx0,bx1,ha,hb⟩,h18,hf⟩:=h;obtain ⟨tm,df⟩:=a;simp only at hd hsz h1 h2 h18 h19;subst hd;obtain ⟨x0,x1,x2,x3,x4,x5,x6,x7,x8,x9,x10,x11,x12,x13,x14,x15,x16,x17,x18,x19,x20,x21,x22,x23,x24,x25,x26,x27,x28,x29,x30,x31,x32,x33,hTm⟩:=lit34 hsz;subst hTm;simp at h1 h2 h18 h19;subst h1;subst h2;subst h18;subst h19;simp only [pL8,pFL,bodyF,Tryz.f63,Option.getD_some];have HA:=Zh ha;have HB:=Zh hb;have HH:=Zh hH;have HO:=Zh hO;clear ha hb hH hO;cases fnd with
 | some u0=>
  obtain ⟨b0,n0,cp0,h7,hO0⟩:=hf;simp at h7;subst h7;have HO0:=Zh hO0;clear hO0;have hnil:∀ w:World,(binOp .eql 27 (.slice (some ⟨b0,0,none⟩) n0 cp0) (.slice none 0 0)).run Tryz.prog w=.ok (.bool false) w:=fun w=>run_eql_slice_nil w _ _ (some _) n0 cp0 Tryz.underlying27;go_wp2;exact ⟨⟨rfl,rfl,HH.out,q,A,n,c,B,m,d,rfl,bx0,bx1,HA.out,HB.out⟩,rfl,b0,n0,cp0,rfl,HO0.out⟩
 | none=>
  simp [Fnd] at hf;subst hf;have hnil:∀ w:World,(binOp .eql 27 (.slice none 0 0) (.slice none 0 0)).run Tryz.prog w=.ok (.bool true) w:=fun w=>run_eql_slice_nil w _ _ none 0 0 Tryz.underlying27;cases hor:orientsV lex s us with
  | true=>
   go_wp2_with fail
   (with_reducible refine (c_orF hT hor (RdSyK.mk HA.out HB.out) (RdI.mk HO.out.ri)).mono ?_);rintro e w1 ⟨rfl,hE1⟩;go_wp2;have e:fndN lex s us none=some us:=by simp [fndN,hor]
   rw [e];exact ⟨⟨rfl,rfl,HH.out.trans (Hx.ext hE1),q,A,n,c,B,m,d,rfl,Ext.keep hE1 bx0,Ext.keep hE1 bx1,HA.out.ext hE1,HB.out.ext hE1⟩,rfl,k,us.length,cp,rfl,HO.out.ext hE1⟩
  | false=>
   go_wp2_with fail
   (with_reducible refine (c_orF hT hor (RdSyK.mk HA.out HB.out) (RdI.mk HO.out.ri)).mono ?_);rintro e w1 ⟨rfl,hE1⟩;go_wp2;have e:fndN lex s us none=none:=by simp [fndN,hor]
   rw [e];exact ⟨⟨rfl,rfl,HH.out.trans (Hx.ext hE1),q,A,n,c,B,m,d,rfl,Ext.keep hE1 bx0,Ext.keep hE1 bx1,HA.out.ext hE1,HB.out.ext hE1⟩,rfl,rfl⟩
end

