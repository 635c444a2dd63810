/- -/
import Derived.Test.YtiblbnkpjmmjaaaGreatQ12
import Derived.Test.YtiblbnkpjmmjaaaGreatQ13
set_option maxRecDepth 100000
set_option maxHeartbeats 16000000
set_option linter.all false
namespace Go.Proofs.YtiblbnkpjmmjaaaGreat
open Go.RowKit
theorem mq14 {p:Prop} (h:p:=by simp only [intOf];omega):p:=h
theorem c_l1Has {v:Value} {t:List Int} {x:Int} {w:World} (h0:RdI w v t) :
 Calls Tryz.prog 55 #[v,.int .i64 x] w fun e w'=>e=.returned (.bool (decide (x∈t)))∧w=w':=by
 obtain ⟨A,n,c,rfl,ha⟩:=h0;have hn:=ha.le;have HL:=Lib.hid ha.len;have HA:=Lib.hid ha;clear ha;go_enter Tryz.func55,Tryz.ntmps55;go_wp2;go_loop [5] (fun i=>∃ k:Nat,i=.int .i64 k∧k≤n∧Hid (∀ j y,j < k→t[j]?=some y→y≠x)) (fun i=>n - (intOf i).toNat)
 case atStart=>exact ⟨0,rfl,Nat.zero_le _,Lib.hid fun j y hj=>by omega⟩
 case round=>
  obtain ⟨k,rfl,hk,hy⟩:=hrel;by_cases hlt:k < n
  .obtain ⟨b',o',z,e',hz,hcz⟩:=RI.at_ HA.out hlt;cases e';have HZ:=Lib.hid hz;clear hz;by_cases hzx:z=x
   .subst hzx;have hb:(z == z)=true:=by simp
    have HR:=Lib.hid (show decide (z∈t)=true from decide_eq_true (List.mem_of_getElem? HZ.out));go_wp2;go_ret;exact ⟨ret_bool HR.out.symm,rfl⟩
   .have hb:(z == x)=false:=by simpa using hzx
    go_wp2;go_round
    case rel=>
     refine ⟨k+1,by go_num,by omega,Lib.hid fun j y hj e=>?_⟩;rcases Nat.lt_or_ge j k with h | h
     .exact hy.out j y h e
     .obtain rfl:j=k:=by omega
      rw [HZ.out] at e;cases e;exact hzx
    case measure=>exact mq14
  .have HR:=Lib.hid (show decide (x∈t)=false from decide_eq_false fun h=>by
    obtain ⟨j,hj,e⟩:=List.mem_iff_getElem.1 h;exact hy.out j _ (by rw [HL.out] at hj;omega) (List.getElem?_eq_getElem hj) e)
   go_wp2;go_ret;exact ⟨ret_bool HR.out.symm,rfl⟩
theorem q_l1Has {v:Value} {t:List Int} {x:Int} {w:World} (h0:RdI w v t) :
 Calls Tryz.prog 55 #[v,.int .i64 x] w fun e w'=>e=.returned (.bool (decide (x∈t)))∧w'=w:=(c_l1Has h0).mono fun _ _ h=>⟨h.1,h.2.symm⟩
theorem ruleOk_l {ar:List Int} {r:Ru} (h:termOk ar r.l=false):ruleOk ar r=false:=ruleOk_f fun a=>by rw [termOk_iff.2 a.1] at h;cases h
theorem ruleOk_r {ar:List Int} {r:Ru} (h:termOk ar r.r=false):ruleOk ar r=false:=ruleOk_f fun a=>by rw [termOk_iff.2 a.2.1] at h;cases h
theorem ruleOk_h {ar:List Int} {r:Ru} {x:Int} (hx:r.l[0]?=some x) (h:x < 0):ruleOk ar r=false:=ruleOk_f fun a=>by have:=a.2.2.1 x hx;omega
theorem ruleOk_v {ar:List Int} {r:Ru} {x:Int} {k:Nat} (hx:r.r[k]?=some x) (h:x < 0) (hn:¬ x∈r.l):ruleOk ar r=false:=ruleOk_f fun a=>hn (a.2.2.2 x (List.mem_of_getElem? hx) h)
theorem ruleOk_t {ar:List Int} {r:Ru} {x:Int} (h1:termOk ar r.l=true) (h2:termOk ar r.r=true) (hx:r.l[0]?=some x) (h:¬ x < 0) (h3:∀ (j:Nat) (y:Int),j < r.r.length→r.r[j]?=some y→y < 0→y∈r.l):ruleOk ar r=true:=
 ruleOk_iff.2 ⟨termOk_iff.1 h1,termOk_iff.1 h2,fun y hy=>by rw [hx] at hy;cases hy;omega,fun y hy h0=>by
  obtain ⟨j,hj,rfl⟩:=List.mem_iff_getElem.1 hy;exact h3 j _ hj (List.getElem?_eq_getElem hj) h0⟩
theorem z1q14 {p:Prop} (h:p:=by (first | (first | (with_reducible exact RdI.mk (RI.ext (Hid.out (by with_reducible assumption)) extX)) | (with_reducible exact RdI.ext (by with_reducible assumption) extX)) | (with_reducible exact RdSyK.mk (by (first | (with_reducible exact RI.ext (Hid.out (by with_reducible assumption)) extX))) (RR.ext (Hid.out (by with_reducible assumption)) extX)) | (with_reducible exact RdSyK.ext (by with_reducible assumption) extX) | (with_reducible exact RdSig.mk (by (first | (with_reducible exact RI.ext (Hid.out (by with_reducible assumption)) extX)))) | (with_reducible exact RdSig.ext (by with_reducible assumption) extX))):p:=h
theorem c_iRuleOk {A L R:Option Addr} {n c l d q f:Nat} {ar:List Int} {r:Ru} {w:World} (h0:RI w A n ar) (h1:RI w L l r.l) (h2:RI w R q r.r) :
 Calls Tryz.prog 45 #[.agg #[.slice A n c],.agg #[.slice L l d,.slice R q f]] w fun e w'=>e=.returned (.bool (ruleOk ar r))∧Ext w w':=by
 have hl:=h1.len;have hq:=h2.len;have hqm:=h2.le;have HA:=Lib.hid h0;have HB:=Lib.hid h1;have HD:=Lib.hid h2;have HQ:=Lib.hid hq;clear h0 h1 h2 hq;cases ht:termOk ar r.l with
 | false=>
  have HR:=Lib.hid (ruleOk_l ht);go_enter Tryz.func45,Tryz.ntmps45;go_wp2_with (go_at_call 66;(with_reducible refine (c_iTermOk (ar:=ar) (t:=r.l) z1q14 z1q14).mono ?_);rintro e w1 ⟨rfl,hE1⟩;have hz1:=sz_of hE1;(try simp only [World.size_alloc,World.size_setCell,World.size_drew] at hz1);obtain ⟨hc1,hf1⟩:=bcell hE1;(try have hq1_0:w.heap.size < w1.heap.size:=by omega);(try have hq1_1:w.heap.size+1 < w1.heap.size:=by omega))
  go_ret;exact ⟨ret_bool HR.out.symm,extX⟩
 | true=>
  cases hu:termOk ar r.r with
  | false=>
   have HR:=Lib.hid (ruleOk_r hu);go_enter Tryz.func45,Tryz.ntmps45
   go_wp2_with (first
    | (go_at_call 66;(with_reducible refine (c_iTermOk (ar:=ar) (t:=r.l) z1q14 z1q14).mono ?_);rintro e w1 ⟨rfl,hE1⟩;have hz1:=sz_of hE1;(try simp only [World.size_alloc,World.size_setCell,World.size_drew] at hz1);obtain ⟨hc1,hf1⟩:=bcell hE1;(try have hq1_0:w.heap.size < w1.heap.size:=by omega);(try have hq1_1:w.heap.size+1 < w1.heap.size:=by omega))
    | (go_at_call 66;(with_reducible refine (c_iTermOk (ar:=ar) (t:=r.r) z1q14 z1q14).mono ?_);rintro e w2 ⟨rfl,hE2⟩;have hz2:=sz_of hE2;(try simp only [World.size_alloc,World.size_setCell,World.size_drew] at hz2);obtain ⟨hc2,hf2⟩:=bcell hE2;(try have hq2_0:w.heap.size < w2.heap.size:=by omega);(try have hq2_1:w.heap.size+1 < w2.heap.size:=by omega)))
   go_ret;exact ⟨ret_bool HR.out.symm,extX⟩
  | true=>
   have hl1:0 < l:=by have:=(termOk_iff.1 ht).2.1.1;omega
   obtain ⟨b,o,x,rfl,hx,hcx⟩:=RI.at_ HB.out hl1;rw [Nat.add_zero] at hcx;by_cases hx0:x < 0
   .have HR:=Lib.hid (ruleOk_h (ar:=ar) hx hx0);clear hx;go_enter Tryz.func45,Tryz.ntmps45;go_wp2_with fail
    (with_reducible refine (c_iTermOk (ar:=ar) (t:=r.l) z1q14 z1q14).mono ?_);rintro e w1 ⟨rfl,hE1⟩;have hz1:=sz_of hE1;(try simp only [World.size_alloc,World.size_setCell,World.size_drew] at hz1);obtain ⟨hc1,hf1⟩:=bcell hE1;(try have hq1_0:w.heap.size < w1.heap.size:=by omega);(try have hq1_1:w.heap.size+1 < w1.heap.size:=by omega);have hcx1:w1.cell? ⟨b,o,none⟩=some (.int .i64 x):=Ext.keep (extX:Ext w w1) hcx;go_wp2_with fail
    (with_reducible refine (c_iTermOk (ar:=ar) (t:=r.r) z1q14 z1q14).mono ?_);rintro e w2 ⟨rfl,hE2⟩;have hz2:=sz_of hE2;(try simp only [World.size_alloc,World.size_setCell,World.size_drew] at hz2);obtain ⟨hc2,hf2⟩:=bcell hE2;(try have hq2_0:w.heap.size < w2.heap.size:=by omega);(try have hq2_1:w.heap.size+1 < w2.heap.size:=by omega);have hcx2:w2.cell? ⟨b,o,none⟩=some (.int .i64 x):=Ext.keep hE2 hcx1;go_wp2;go_ret;exact ⟨ret_bool HR.out.symm,extX⟩
   .have HT:=Lib.hid (fun h3=>ruleOk_t ht hu hx hx0 h3);clear hx;go_enter Tryz.func45,Tryz.ntmps45;go_wp2_with fail
    (with_reducible refine (c_iTermOk (ar:=ar) (t:=r.l) z1q14 z1q14).mono ?_);rintro e w1 ⟨rfl,hE1⟩;have hz1:=sz_of hE1;(try simp only [World.size_alloc,World.size_setCell,World.size_drew] at hz1);obtain ⟨hc1,hf1⟩:=bcell hE1;(try have hq1_0:w.heap.size < w1.heap.size:=by omega);(try have hq1_1:w.heap.size+1 < w1.heap.size:=by omega);have hcx1:w1.cell? ⟨b,o,none⟩=some (.int .i64 x):=Ext.keep (extX:Ext w w1) hcx;go_wp2_with fail
    (with_reducible refine (c_iTermOk (ar:=ar) (t:=r.r) z1q14 z1q14).mono ?_);rintro e w2 ⟨rfl,hE2⟩;have hz2:=sz_of hE2;(try simp only [World.size_alloc,World.size_setCell,World.size_drew] at hz2);obtain ⟨hc2,hf2⟩:=bcell hE2;(try have hq2_0:w.heap.size < w2.heap.size:=by omega);(try have hq2_1:w.heap.size+1 < w2.heap.size:=by omega);have hcx2:w2.cell? ⟨b,o,none⟩=some (.int .i64 x):=Ext.keep hE2 hcx1;go_wp2_with fail;go_loop [29] (fun i=>∃ k:Nat,i=.int .i64 k∧k≤q∧Hid (∀ (j:Nat) (y:Int),j < k→r.r[j]?=some y→y < 0→y∈r.l)) (fun i=>q - (intOf i).toNat)
    case atStart=>exact ⟨0,rfl,Nat.zero_le _,Lib.hid fun j y hj=>by omega⟩
    case round=>
     obtain ⟨k,rfl,hk,hp⟩:=hrel;by_cases hlt:k < q
     .obtain ⟨b',o',z,e',hz,hcz⟩:=RI.at_ (RI.ext HD.out (extX:Ext w w2)) hlt;cases e';have HZ:=Lib.hid hz;clear hz;by_cases hz0:z < 0
      .by_cases hm:z∈r.l
       .have hmd:decide (z∈r.l)=true:=decide_eq_true hm;have HP:=Lib.hid (show ∀ (j:Nat) (y:Int),j < k+1→r.r[j]?=some y→y < 0→y∈r.l from fun j y hj e h=>by
         rcases Nat.lt_or_ge j k with h' | h'
         .exact hp.out j y h' e h
         .obtain rfl:j=k:=by omega
          rw [HZ.out] at e;cases e;exact hm)
        go_wp2_with (go_at_call 67;(with_reducible refine (c_slicesContains (x:=z) (xs:=r.l) (RdI.mk (RI.ext HB.out (extX:Ext w w2)))).mono ?_);rintro e w5 ⟨rfl,rfl⟩)
        go_round
        case rel=>exact ⟨k+1,by go_num,by omega,HP⟩
        case measure=>exact mq14
       .have hmd:decide (z∈r.l)=false:=decide_eq_false hm;have HR:=Lib.hid (ruleOk_v (ar:=ar) HZ.out hz0 hm);go_wp2_with (go_at_call 67;(with_reducible refine (c_slicesContains (x:=z) (xs:=r.l) (RdI.mk (RI.ext HB.out (extX:Ext w w2)))).mono ?_);rintro e w5 ⟨rfl,rfl⟩)
        go_ret;exact ⟨ret_bool HR.out.symm,extX⟩
      .have HP:=Lib.hid (show ∀ (j:Nat) (y:Int),j < k+1→r.r[j]?=some y→y < 0→y∈r.l from fun j y hj e h=>by
        rcases Nat.lt_or_ge j k with h' | h'
        .exact hp.out j y h' e h
        .obtain rfl:j=k:=by omega
         rw [HZ.out] at e;cases e;exact absurd h hz0)
       go_wp2;go_round
       case rel=>exact ⟨k+1,by go_num,by omega,HP⟩
       case measure=>exact mq14
     .have HR:=Lib.hid (HT.out fun j y hj e h=>hp.out j y (by rw [HQ.out] at hj;omega) e h);go_wp2;go_ret;exact ⟨ret_bool HR.out.symm,extX⟩
theorem c_iSystemOk {k0:Bool} {v:Value} {s:Sy} {w:World} (h0:RdSyK k0 w v s) :
 Calls Tryz.prog 19 #[v] w fun e w'=>e=.returned (.bool (sysOk s))∧Ext w w':=by
 obtain ⟨A,n,c,B,m,d,rfl,ha,hb⟩:=h0;have hm:=hb.le;have HL:=Lib.hid hb.len;have HA:=Lib.hid ha;have HB:=Lib.hid hb;clear ha hb;cases hok:sigOk s.ar with
 | false=>
  have HR:=Lib.hid (sysOk_sig hok);go_enter Tryz.func19,Tryz.ntmps19;go_wp2_with (go_at_call 35;(with_reducible refine (c_iSigOk (ar:=s.ar) z1q14).mono ?_);rintro e w1 ⟨rfl,hE1⟩;have hz1:=sz_of hE1;(try simp only [World.size_alloc,World.size_setCell,World.size_drew] at hz1);obtain ⟨hc1,hf1⟩:=bcell hE1;(try have hq1_0:w.heap.size < w1.heap.size:=by omega))
  go_ret;exact ⟨ret_bool HR.out.symm,extX⟩
 | true=>
  by_cases h12:m≤12
  .have HT:=Lib.hid (fun h3=>sysOk_all hok (by rw [HL.out];exact h12) h3);go_enter Tryz.func19,Tryz.ntmps19;go_wp2_with fail
   (with_reducible refine (c_iSigOk (ar:=s.ar) z1q14).mono ?_);rintro e w1 ⟨rfl,hE1⟩;have hz1:=sz_of hE1;(try simp only [World.size_alloc,World.size_setCell,World.size_drew] at hz1);obtain ⟨hc1,hf1⟩:=bcell hE1;(try have hq1_0:w.heap.size < w1.heap.size:=by omega);have hs0:w1.cell? ⟨w.heap.size,0,none⟩=some (.slice A n c):=by simp [go_sem,hc1,hq1_0]
   go_wp2_with fail;go_loopw [18] (fun i wr=>∃ k:Nat,i=.int .i64 k∧k≤m∧Hid (∀ (j:Nat) (r:Ru),j < k→s.rs[j]?=some r→ruleOk s.ar r=true)∧Ext w1 wr) (fun i _=>m - (intOf i).toNat)
   case atStart=>exact ⟨0,rfl,Nat.zero_le _,Lib.hid fun j y hj=>by omega,extX⟩
   case round=>
    obtain ⟨k,rfl,hk,hp,hE2⟩:=hrel;have hw:Ext w wr:=extX;have hr0:wr.cell? ⟨w.heap.size,0,none⟩=some (.slice A n c):=Ext.keep hE2 hs0;have hws:w.heap.size < wr.heap.size:=World.block_lt_of_cell? wr _ hr0;by_cases hlt:k < m
    .obtain ⟨b,o,r,A1,m1,c1,A2,m2,c2,rfl,hx,hd1,hd2,hr1,hr2,_,_⟩:=RR.at_ (RR.ext HB.out hw) hlt;have HX:=Lib.hid hx;have HR1:=Lib.hid hr1;have HR2:=Lib.hid hr2;clear hx hr1 hr2;have hlt':(k:Int) < (m:Int):=by omega
     cases hro:ruleOk s.ar r with
     | false=>
      have HR:=Lib.hid (sysOk_at HX.out hro);go_wp2_with (go_at_call 45;(with_reducible refine (c_iRuleOk (ar:=s.ar) (r:=r) (RI.ext HA.out extX) (RI.ext HR1.out extX) (RI.ext HR2.out extX)).mono ?_);rintro e w5 ⟨rfl,hE5⟩)
      go_ret;exact ⟨ret_bool HR.out.symm,extX⟩
     | true=>
      have HP:=Lib.hid (show ∀ (j:Nat) (r:Ru),j < k+1→s.rs[j]?=some r→ruleOk s.ar r=true from fun j y hj e=>by
       rcases Nat.lt_or_ge j k with h' | h'
       .exact hp.out j y h' e
       .obtain rfl:j=k:=by omega
        rw [HX.out] at e;cases e;exact hro)
      go_wp2_with (go_at_call 45;(with_reducible refine (c_iRuleOk (ar:=s.ar) (r:=r) (RI.ext HA.out extX) (RI.ext HR1.out extX) (RI.ext HR2.out extX)).mono ?_);rintro e w5 ⟨rfl,hE5⟩)
      go_roundw
      case rel=>exact ⟨k+1,by go_num,by omega,HP,extX⟩
      case measure=>exact mq14
    .have HR:=Lib.hid (HT.out fun j r hj e=>hp.out j r (by rw [HL.out] at hj;omega) e);go_wp2;go_ret;exact ⟨ret_bool HR.out.symm,extX⟩
  .have HR:=Lib.hid (sysOk_len (s:=s) (by rw [HL.out];exact h12));go_enter Tryz.func19,Tryz.ntmps19;go_wp2_with (go_at_call 35;(with_reducible refine (c_iSigOk (ar:=s.ar) z1q14).mono ?_);rintro e w1 ⟨rfl,hE1⟩;have hz1:=sz_of hE1;(try simp only [World.size_alloc,World.size_setCell,World.size_drew] at hz1);obtain ⟨hc1,hf1⟩:=bcell hE1;(try have hq1_0:w.heap.size < w1.heap.size:=by omega))
   all_goals go_ret
   all_goals exact ⟨ret_bool HR.out.symm,extX⟩
theorem c_sRuleOk {A L R:Option Addr} {n c l d q f:Nat} {ar:List Int} {r:Ru} {w:World} (h0:RI w A n ar) (h1:RI w L l r.l) (h2:RI w R q r.r) :
 Calls Tryz.prog 52 #[.agg #[.slice A n c],.agg #[.slice L l d,.slice R q f]] w fun e w'=>e=.returned (.bool (ruleOk ar r))∧Ext w w':=by
 have hl:=h1.len;have hq:=h2.len;have hqm:=h2.le;have HA:=Lib.hid h0;have HB:=Lib.hid h1;have HD:=Lib.hid h2;have HQ:=Lib.hid hq;clear h0 h1 h2 hq;cases ht:termOk ar r.l with
 | false=>
  have HR:=Lib.hid (ruleOk_l ht);go_enter Tryz.func52,Tryz.ntmps52;go_wp2_with (go_at_call 64;(with_reducible refine (c_sTermOk (ar:=ar) (t:=r.l) z1q14 z1q14).mono ?_);rintro e w1 ⟨rfl,hE1⟩;have hz1:=sz_of hE1;(try simp only [World.size_alloc,World.size_setCell,World.size_drew] at hz1);obtain ⟨hc1,hf1⟩:=bcell hE1;(try have hq1_0:w.heap.size < w1.heap.size:=by omega);(try have hq1_1:w.heap.size+1 < w1.heap.size:=by omega))
  go_ret;exact ⟨ret_bool HR.out.symm,extX⟩
 | true=>
  cases hu:termOk ar r.r with
  | false=>
   have HR:=Lib.hid (ruleOk_r hu);go_enter Tryz.func52,Tryz.ntmps52
   go_wp2_with (first
    | (go_at_call 64;(with_reducible refine (c_sTermOk (ar:=ar) (t:=r.l) z1q14 z1q14).mono ?_);rintro e w1 ⟨rfl,hE1⟩;have hz1:=sz_of hE1;(try simp only [World.size_alloc,World.size_setCell,World.size_drew] at hz1);obtain ⟨hc1,hf1⟩:=bcell hE1;(try have hq1_0:w.heap.size < w1.heap.size:=by omega);(try have hq1_1:w.heap.size+1 < w1.heap.size:=by omega))
    | (go_at_call 64;(with_reducible refine (c_sTermOk (ar:=ar) (t:=r.r) z1q14 z1q14).mono ?_);rintro e w2 ⟨rfl,hE2⟩;have hz2:=sz_of hE2;(try simp only [World.size_alloc,World.size_setCell,World.size_drew] at hz2);obtain ⟨hc2,hf2⟩:=bcell hE2;(try have hq2_0:w.heap.size < w2.heap.size:=by omega);(try have hq2_1:w.heap.size+1 < w2.heap.size:=by omega)))
   go_ret;exact ⟨ret_bool HR.out.symm,extX⟩
  | true=>
   have hl1:0 < l:=by have:=(termOk_iff.1 ht).2.1.1;omega
   obtain ⟨b,o,x,rfl,hx,hcx⟩:=RI.at_ HB.out hl1;rw [Nat.add_zero] at hcx;by_cases hx0:x < 0
   .have HR:=Lib.hid (ruleOk_h (ar:=ar) hx hx0);clear hx;go_enter Tryz.func52,Tryz.ntmps52;go_wp2_with fail
    (with_reducible refine (c_sTermOk (ar:=ar) (t:=r.l) z1q14 z1q14).mono ?_);rintro e w1 ⟨rfl,hE1⟩;have hz1:=sz_of hE1;(try simp only [World.size_alloc,World.size_setCell,World.size_drew] at hz1);obtain ⟨hc1,hf1⟩:=bcell hE1;(try have hq1_0:w.heap.size < w1.heap.size:=by omega);(try have hq1_1:w.heap.size+1 < w1.heap.size:=by omega);have hcx1:w1.cell? ⟨b,o,none⟩=some (.int .i64 x):=Ext.keep (extX:Ext w w1) hcx;go_wp2_with fail
    (with_reducible refine (c_sTermOk (ar:=ar) (t:=r.r) z1q14 z1q14).mono ?_);rintro e w2 ⟨rfl,hE2⟩;have hz2:=sz_of hE2;(try simp only [World.size_alloc,World.size_setCell,World.size_drew] at hz2);obtain ⟨hc2,hf2⟩:=bcell hE2;(try have hq2_0:w.heap.size < w2.heap.size:=by omega);(try have hq2_1:w.heap.size+1 < w2.heap.size:=by omega);have hcx2:w2.cell? ⟨b,o,none⟩=some (.int .i64 x):=Ext.keep hE2 hcx1;go_wp2;go_ret;exact ⟨ret_bool HR.out.symm,extX⟩
   .have HT:=Lib.hid (fun h3=>ruleOk_t ht hu hx hx0 h3);clear hx;go_enter Tryz.func52,Tryz.ntmps52;go_wp2_with fail
    (with_reducible refine (c_sTermOk (ar:=ar) (t:=r.l) z1q14 z1q14).mono ?_);rintro e w1 ⟨rfl,hE1⟩;have hz1:=sz_of hE1;(try simp only [World.size_alloc,World.size_setCell,World.size_drew] at hz1);obtain ⟨hc1,hf1⟩:=bcell hE1;(try have hq1_0:w.heap.size < w1.heap.size:=by omega);(try have hq1_1:w.heap.size+1 < w1.heap.size:=by omega);have hcx1:w1.cell? ⟨b,o,none⟩=some (.int .i64 x):=Ext.keep (extX:Ext w w1) hcx;go_wp2_with fail
    (with_reducible refine (c_sTermOk (ar:=ar) (t:=r.r) z1q14 z1q14).mono ?_);rintro e w2 ⟨rfl,hE2⟩;have hz2:=sz_of hE2;(try simp only [World.size_alloc,World.size_setCell,World.size_drew] at hz2);obtain ⟨hc2,hf2⟩:=bcell hE2;(try have hq2_0:w.heap.size < w2.heap.size:=by omega);(try have hq2_1:w.heap.size+1 < w2.heap.size:=by omega);have hcx2:w2.cell? ⟨b,o,none⟩=some (.int .i64 x):=Ext.keep hE2 hcx1;have hs0:w2.cell? ⟨w.heap.size+1,0,none⟩=some (.slice (some ⟨b,o,none⟩) l d):=by simp [go_sem,hc1,hc2,hq1_0,hq1_1,hq2_0,hq2_1]
    have hs1:w2.cell? ⟨w.heap.size+1,1,none⟩=some (.slice R q f):=by simp [go_sem,hc1,hc2,hq1_0,hq1_1,hq2_0,hq2_1]
    go_wp2_with fail;go_loopw [5] (fun i wr=>∃ k:Nat,i=.int .i64 k∧k≤q∧Hid (∀ (j:Nat) (y:Int),j < k→r.r[j]?=some y→y < 0→y∈r.l)∧Ext w2 wr) (fun i _=>q - (intOf i).toNat)
    case atStart=>exact ⟨0,rfl,Nat.zero_le _,Lib.hid fun j y hj=>by omega,Ext.refl _⟩
    case round=>
     obtain ⟨k,rfl,hk,hp,hE9⟩:=hrel;have hEwr:Ext w wr:=extX;have hr0:wr.cell? ⟨w.heap.size+1,0,none⟩=some (.slice (some ⟨b,o,none⟩) l d):=Ext.keep hE9 hs0;have hr1:wr.cell? ⟨w.heap.size+1,1,none⟩=some (.slice R q f):=Ext.keep hE9 hs1;by_cases hlt:k < q
     .obtain ⟨b',o',z,e',hz,hcz⟩:=RI.at_ (RI.ext HD.out hEwr) hlt;cases e';have HZ:=Lib.hid hz;clear hz;have hki:(k:Int) < (q:Int):=by omega
      by_cases hz0:z < 0
      .have hzd:decide (z < 0)=true:=by simpa using hz0
       by_cases hm:z∈r.l
       .have hmd:decide (z∈r.l)=true:=decide_eq_true hm;have HP:=Lib.hid (show ∀ (j:Nat) (y:Int),j < k+1→r.r[j]?=some y→y < 0→y∈r.l from fun j y hj e h=>by
         rcases Nat.lt_or_ge j k with h' | h'
         .exact hp.out j y h' e h
         .obtain rfl:j=k:=by omega
          rw [HZ.out] at e;cases e;exact hm)
        go_wp2_with fail;go_quiet (first | (go_at_call 55;exact Calls.quiet_of_same (q_l1Has (x:=z) (t:=r.l) z1q14)))
        go_wp2;go_roundw
        case rel=>exact ⟨k+1,by go_num,by omega,HP,extX⟩
        case measure=>exact mq14
       .have hmd:decide (z∈r.l)=false:=decide_eq_false hm;have HR:=Lib.hid (ruleOk_v (ar:=ar) HZ.out hz0 hm);go_wp2_with fail;go_quiet (first | (go_at_call 55;exact Calls.quiet_of_same (q_l1Has (x:=z) (t:=r.l) z1q14)))
        go_wp2;go_ret;exact ⟨ret_bool HR.out.symm,extX⟩
      .have HP:=Lib.hid (show ∀ (j:Nat) (y:Int),j < k+1→r.r[j]?=some y→y < 0→y∈r.l from fun j y hj e h=>by
        rcases Nat.lt_or_ge j k with h' | h'
        .exact hp.out j y h' e h
        .obtain rfl:j=k:=by omega
         rw [HZ.out] at e;cases e;exact absurd h hz0)
       have hzd:decide (z < 0)=false:=by simpa using hz0
       go_wp2_with fail;go_quiet (fail)
       go_wp2;go_roundw
       case rel=>exact ⟨k+1,by go_num,by omega,HP,extX⟩
       case measure=>exact mq14
     .have HR:=Lib.hid (HT.out fun j y hj e h=>hp.out j y (by rw [HQ.out] at hj;omega) e h);go_wp2;go_ret;exact ⟨ret_bool HR.out.symm,extX⟩
theorem c_sSystemOk {k0:Bool} {v:Value} {s:Sy} {w:World} (h0:RdSyK k0 w v s) :
 Calls Tryz.prog 30 #[v] w fun e w'=>e=.returned (.bool (sysOk s))∧Ext w w':=by
 obtain ⟨A,n,c,B,m,d,rfl,ha,hb⟩:=h0;have hm:=hb.le;have HL:=Lib.hid hb.len;have HA:=Lib.hid ha;have HB:=Lib.hid hb;clear ha hb;cases hok:sigOk s.ar with
 | false=>
  have HR:=Lib.hid (sysOk_sig hok);go_enter Tryz.func30,Tryz.ntmps30;go_wp2_with (go_at_call 51;(with_reducible refine (c_sSigOk (ar:=s.ar) z1q14).mono ?_);rintro e w1 ⟨rfl,hE1⟩;have hz1:=sz_of hE1;(try simp only [World.size_alloc,World.size_setCell,World.size_drew] at hz1);obtain ⟨hc1,hf1⟩:=bcell hE1;(try have hq1_0:w.heap.size < w1.heap.size:=by omega))
  go_ret;exact ⟨ret_bool HR.out.symm,extX⟩
 | true=>
  by_cases h12:m≤12
  .have HT:=Lib.hid (fun h3=>sysOk_all hok (by rw [HL.out];exact h12) h3);go_enter Tryz.func30,Tryz.ntmps30;go_wp2_with fail
   (with_reducible refine (c_sSigOk (ar:=s.ar) z1q14).mono ?_);rintro e w1 ⟨rfl,hE1⟩;have hz1:=sz_of hE1;(try simp only [World.size_alloc,World.size_setCell,World.size_drew] at hz1);obtain ⟨hc1,hf1⟩:=bcell hE1;(try have hq1_0:w.heap.size < w1.heap.size:=by omega);have hs0:w1.cell? ⟨w.heap.size,0,none⟩=some (.slice A n c):=by simp [go_sem,hc1,hq1_0]
   have hs1:w1.cell? ⟨w.heap.size,1,none⟩=some (.slice B m d):=by simp [go_sem,hc1,hq1_0]
   go_wp2_with fail;go_loopw [3] (fun i wr=>∃ k:Nat,i=.int .i64 k∧k≤m∧Hid (∀ (j:Nat) (r:Ru),j < k→s.rs[j]?=some r→ruleOk s.ar r=true)∧Ext w1 wr) (fun i _=>m - (intOf i).toNat)
   case atStart=>exact ⟨0,rfl,Nat.zero_le _,Lib.hid fun j y hj=>by omega,extX⟩
   case round=>
    obtain ⟨k,rfl,hk,hp,hE2⟩:=hrel;have hw:Ext w wr:=extX;have hr0:wr.cell? ⟨w.heap.size,0,none⟩=some (.slice A n c):=Ext.keep hE2 hs0;have hr1:wr.cell? ⟨w.heap.size,1,none⟩=some (.slice B m d):=Ext.keep hE2 hs1;by_cases hlt:k < m
    .obtain ⟨b,o,r,A1,m1,c1,A2,m2,c2,rfl,hx,hd1,hd2,hr1,hr2,_,_⟩:=RR.at_ (RR.ext HB.out hw) hlt;have HX:=Lib.hid hx;have HR1:=Lib.hid hr1;have HR2:=Lib.hid hr2;clear hx hr1 hr2;have hlt':(k:Int) < (m:Int):=by omega
     cases hro:ruleOk s.ar r with
     | false=>
      have HR:=Lib.hid (sysOk_at HX.out hro);go_wp2_with fail;go_still_tail 7,(by kernel_rfl)
      change wpList _ _ _ _ _ wr.drew
      have hEd:Ext wr wr.drew:=(Ext.refl wr).drew;have hEwd:Ext w wr.drew:=hw.drew;go_wp2_with (go_at_call 52;(with_reducible refine (c_sRuleOk (ar:=s.ar) (r:=r) (RI.ext HA.out hEwd) (RI.ext HR1.out hEd) (RI.ext HR2.out hEd)).mono ?_);rintro e w5 ⟨rfl,hE5⟩)
      go_ret;exact ⟨ret_bool HR.out.symm,Ext.trans hEwd hE5⟩
     | true=>
      have HP:=Lib.hid (show ∀ (j:Nat) (r:Ru),j < k+1→s.rs[j]?=some r→ruleOk s.ar r=true from fun j y hj e=>by
       rcases Nat.lt_or_ge j k with h' | h'
       .exact hp.out j y h' e
       .obtain rfl:j=k:=by omega
        rw [HX.out] at e;cases e;exact hro)
      go_wp2_with fail;go_still_tail 7,(by kernel_rfl)
      change wpList _ _ _ _ _ wr.drew
      have hEd:Ext wr wr.drew:=(Ext.refl wr).drew;have hEwd:Ext w wr.drew:=hw.drew;go_wp2_with (go_at_call 52;(with_reducible refine (c_sRuleOk (ar:=s.ar) (r:=r) (RI.ext HA.out hEwd) (RI.ext HR1.out hEd) (RI.ext HR2.out hEd)).mono ?_);rintro e w5 ⟨rfl,hE5⟩)
      go_roundw
      case rel=>exact ⟨k+1,by go_num,by omega,HP,Ext.trans hE2 (Ext.trans hEd hE5)⟩
      case measure=>exact mq14
    .have HR:=Lib.hid (HT.out fun j r hj e=>hp.out j r (by rw [HL.out] at hj;omega) e);go_wp2;go_ret;exact ⟨ret_bool HR.out.symm,extX⟩
  .have HR:=Lib.hid (sysOk_len (s:=s) (by rw [HL.out];exact h12));go_enter Tryz.func30,Tryz.ntmps30;go_wp2_with (go_at_call 51;(with_reducible refine (c_sSigOk (ar:=s.ar) z1q14).mono ?_);rintro e w1 ⟨rfl,hE1⟩;have hz1:=sz_of hE1;(try simp only [World.size_alloc,World.size_setCell,World.size_drew] at hz1);obtain ⟨hc1,hf1⟩:=bcell hE1;(try have hq1_0:w.heap.size < w1.heap.size:=by omega))
   all_goals go_ret
   all_goals exact ⟨ret_bool HR.out.symm,extX⟩

