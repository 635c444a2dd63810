/- -/
import Derived.Test.YtiblbnkpjmmjaaaGreatQ13
import Derived.Test.YtiblbnkpjmmjaaaGreatQ12
set_option maxRecDepth 100000
set_option maxHeartbeats 16000000
set_option linter.all false
namespace Go.Proofs.YtiblbnkpjmmjaaaGreat
open Go.RowKit
def RdWt (w:World) (v:Value) (t:Wt):Prop:=∃ A n c B m d,v=.agg #[.int .i64 t.var,.slice A n c,.slice B m d]∧RI w A n t.sym∧RI w B m t.rank
theorem RdWt.mk {w:World} {A B:Option Addr} {n c m d:Nat} {t:Wt} (h1:RI w A n t.sym) (h2:RI w B m t.rank):RdWt w (.agg #[.int .i64 t.var,.slice A n c,.slice B m d]) t:=
 ⟨A,n,c,B,m,d,rfl,h1,h2⟩
theorem RdWt.ext {w w':World} {v:Value} {t:Wt} (h:RdWt w v t) (k:Ext w w'):RdWt w' v t:=by
 obtain ⟨A,n,c,B,m,d,e,h1,h2⟩:=h;exact ⟨A,n,c,B,m,d,e,h1.ext k,h2.ext k⟩
theorem z0q18 {p:Prop} (h:p:=by (first | (first | (with_reducible exact RdI.mk (RI.ext (Hid.out (by with_reducible assumption)) extX)) | (with_reducible exact RdI.ext (by with_reducible assumption) extX)) | (with_reducible exact RdWt.mk (by (first | (with_reducible exact RI.ext (Hid.out (by with_reducible assumption)) extX))) (by (first | (with_reducible exact RI.ext (Hid.out (by with_reducible assumption)) extX)))) | (with_reducible exact RdWt.ext (by with_reducible assumption) extX) | (with_reducible exact RdSig.mk (by (first | (with_reducible exact RI.ext (Hid.out (by with_reducible assumption)) extX)))) | (with_reducible exact RdSig.ext (by with_reducible assumption) extX))):p:=h
theorem c_iWeightsOk {v0 v1:Value} {ar:List Int} {t:Wt} {w:World} (h0:RdSig w v0 ar) (h1:RdWt w v1 t) :
 Calls Tryz.prog 25 #[v0,v1] w fun e w'=>e=.returned (.bool (wtOk ar t))∧Ext w w':=by
 obtain ⟨A,n,c,rfl,ha⟩:=h0;obtain ⟨S,m,d,R,q,f,rfl,hs0,hr0⟩:=h1;have hn:=ha.le;have hm:=hs0.le;have hq:=hr0.le;have HA:=Lib.hid ha;have HS:=Lib.hid hs0;have HR:=Lib.hid hr0;clear ha hs0 hr0;rcases hrk:rankOk ar t.rank with _ | _
 .go_enter Tryz.func25,Tryz.ntmps25;go_wp2_with (go_at_call 48;(with_reducible refine (c_iRankOk (ar:=ar) (rk:=t.rank) z0q18 z0q18).mono ?_);rintro e w1 ⟨rfl,hE1⟩;have hz1:=sz_of hE1;(try simp only [World.size_alloc,World.size_setCell,World.size_drew] at hz1);obtain ⟨hc1,hf1⟩:=bcell hE1;(try have hq1_0:w.heap.size < w1.heap.size:=by omega);(try have hq1_1:w.heap.size+1 < w1.heap.size:=by omega))
  go_ret;exact ⟨ret_bool (wtOk_rank hrk).symm,extX⟩
 .by_cases hnm:m=n
  .subst hnm;have hnn:((m:Int) != (m:Int))=false:=by simp
   by_cases hv:1≤t.var∧t.var≤20
   .obtain ⟨hv1,hv2⟩:=hv;have hqm:=(rankOk_iff.1 hrk).2.1;rw [HA.out.len,HR.out.len] at hqm;subst hqm;have HK:=Lib.hid hrk;go_enter Tryz.func25,Tryz.ntmps25;go_wp2_with (go_at_call 48;(with_reducible refine (c_iRankOk (ar:=ar) (rk:=t.rank) z0q18 z0q18).mono ?_);rintro e w1 ⟨rfl,hE1⟩;have hz1:=sz_of hE1;(try simp only [World.size_alloc,World.size_setCell,World.size_drew] at hz1);obtain ⟨hc1,hf1⟩:=bcell hE1;(try have hq1_0:w.heap.size < w1.heap.size:=by omega);(try have hq1_1:w.heap.size+1 < w1.heap.size:=by omega))
    go_loopw [39] (fun i wr=>∃ k:Nat,i=.int .i64 k∧k≤q∧Hid (∀ (j:Nat) (s a r:Int),j < k→t.sym[j]?=some s→ar[j]?=some a→t.rank[j]?=some r→WtAt t.var q s a r)∧Ext w1 wr) (fun i _=>q - (intOf i).toNat)
    case atStart=>exact ⟨0,rfl,Nat.zero_le _,fun j s a r hj=>by omega,extX⟩
    case round=>
     obtain ⟨k,rfl,hk,hp,hE2⟩:=hrel;have hw:Ext w wr:=extX;have hb0:wr.cell? ⟨w.heap.size,0,none⟩=some (.slice A q c):=Ext.keep hE2 (by simp [go_sem,hc1,hq1_0]);have hb1:wr.cell? ⟨w.heap.size+1,0,none⟩=some (.int .i64 t.var):=Ext.keep hE2 (by simp [go_sem,hc1,hq1_1]);have hb2:wr.cell? ⟨w.heap.size+1,1,none⟩=some (.slice S q d):=Ext.keep hE2 (by simp [go_sem,hc1,hq1_1]);have hb3:wr.cell? ⟨w.heap.size+1,2,none⟩=some (.slice R q f):=Ext.keep hE2 (by simp [go_sem,hc1,hq1_1]);by_cases hlt:k < q
     .obtain ⟨b,o,s,rfl,hx,hcx⟩:=RI.at_ (RI.ext HS.out hw) hlt;obtain ⟨b',o',a,rfl,hy,hcy⟩:=RI.at_ (RI.ext HA.out hw) hlt;obtain ⟨b'',o'',r,rfl,hz,hcz⟩:=RI.at_ (RI.ext HR.out hw) hlt;have HX:=Lib.hid hx;have HY:=Lib.hid hy;have HZ:=Lib.hid hz;clear hx hy hz;have hlt':(k:Int) < (q:Int):=by omega
      rcases hb:(r != (q:Int) - 1) with _ | _
      all_goals
       have HB:=Lib.hid (show (r != (q:Int) - 1)=_ from hb);go_wp2
       all_goals first
        | (go_ret;exact ⟨ret_bool (wtOk_at HX.out HY.out HZ.out (by have hb2:=HB.out;simp at hb2;rw [HR.out.len];unfold WtAt;omega)).symm,extX⟩)
        | (refine ⟨⟨k+1,by go_num,by omega,fun j s2 a2 r2 hj e1 e2 e3=>?_,extX⟩,by simp [intOf];omega⟩
           rcases Nat.lt_or_ge j k with h | h
           .exact hp.out j s2 a2 r2 h e1 e2 e3
           .obtain rfl:j=k:=by omega
            rw [HX.out] at e1;rw [HY.out] at e2;rw [HZ.out] at e3;cases e1;cases e2;cases e3;have hb2:=HB.out;simp at hb2;unfold WtAt;omega)
     .go_wp2;go_ret;refine ⟨ret_bool (wtOk_all HK.out ?_ ⟨hv1,hv2⟩ fun j s a r hj e1 e2 e3=>?_).symm,extX⟩
      .rw [HS.out.len,HA.out.len]
      .rw [HR.out.len];exact hp.out j s a r (by rw [HS.out.len] at hj;omega) e1 e2 e3
   .go_enter Tryz.func25,Tryz.ntmps25;go_wp2_with (go_at_call 48;(with_reducible refine (c_iRankOk (ar:=ar) (rk:=t.rank) z0q18 z0q18).mono ?_);rintro e w1 ⟨rfl,hE1⟩;have hz1:=sz_of hE1;(try simp only [World.size_alloc,World.size_setCell,World.size_drew] at hz1);obtain ⟨hc1,hf1⟩:=bcell hE1;(try have hq1_0:w.heap.size < w1.heap.size:=by omega);(try have hq1_1:w.heap.size+1 < w1.heap.size:=by omega))
    all_goals go_ret
    all_goals exact ⟨ret_bool (wtOk_var hv).symm,extX⟩
  .have hnn:((m:Int) != (n:Int))=true:=by simp;omega
   go_enter Tryz.func25,Tryz.ntmps25;go_wp2_with (go_at_call 48;(with_reducible refine (c_iRankOk (ar:=ar) (rk:=t.rank) z0q18 z0q18).mono ?_);rintro e w1 ⟨rfl,hE1⟩;have hz1:=sz_of hE1;(try simp only [World.size_alloc,World.size_setCell,World.size_drew] at hz1);obtain ⟨hc1,hf1⟩:=bcell hE1;(try have hq1_0:w.heap.size < w1.heap.size:=by omega);(try have hq1_1:w.heap.size+1 < w1.heap.size:=by omega))
   go_ret;exact ⟨ret_bool (wtOk_len (by rw [HA.out.len,HS.out.len];omega)).symm,extX⟩
theorem c_sWeightsOk {v0 v1:Value} {ar:List Int} {t:Wt} {w:World} (h0:RdSig w v0 ar) (h1:RdWt w v1 t) :
 Calls Tryz.prog 37 #[v0,v1] w fun e w'=>e=.returned (.bool (wtOk ar t))∧Ext w w':=by
 obtain ⟨A,n,c,rfl,ha⟩:=h0;obtain ⟨S,m,d,R,q,f,rfl,hs0,hr0⟩:=h1;have hn:=ha.le;have hm:=hs0.le;have hq:=hr0.le;have HA:=Lib.hid ha;have HS:=Lib.hid hs0;have HR:=Lib.hid hr0;clear ha hs0 hr0;rcases hrk:rankOk ar t.rank with _ | _
 .go_enter Tryz.func37,Tryz.ntmps37;go_wp2_with (go_at_call 56;(with_reducible refine (c_sRankOk (ar:=ar) (rk:=t.rank) z0q18 z0q18).mono ?_);rintro e w1 ⟨rfl,hE1⟩;have hz1:=sz_of hE1;(try simp only [World.size_alloc,World.size_setCell,World.size_drew] at hz1);obtain ⟨hc1,hf1⟩:=bcell hE1;(try have hq1_0:w.heap.size < w1.heap.size:=by omega);(try have hq1_1:w.heap.size+1 < w1.heap.size:=by omega))
  go_ret;exact ⟨ret_bool (wtOk_rank hrk).symm,extX⟩
 .by_cases hv:1≤t.var∧t.var≤20
  .by_cases hnm:m=n
   .subst hnm;have hnn:((m:Int) != (m:Int))=false:=by simp
    have hqm:=(rankOk_iff.1 hrk).2.1;rw [HA.out.len,HR.out.len] at hqm;subst hqm;have hq1:1≤q:=by have:=(rankOk_iff.1 hrk).1.1;rw [HA.out.len] at this;exact this
    have HK:=Lib.hid hrk;have HV:=Lib.hid hv;go_enter Tryz.func37,Tryz.ntmps37
    go_wp2_with (first
     | (go_at_call 56;(with_reducible refine (c_sRankOk (ar:=ar) (rk:=t.rank) z0q18 z0q18).mono ?_);rintro e w1 ⟨rfl,hE1⟩;have hz1:=sz_of hE1;(try simp only [World.size_alloc,World.size_setCell,World.size_drew] at hz1);obtain ⟨hc1,hf1⟩:=bcell hE1;(try have hq1_0:w.heap.size < w1.heap.size:=by omega);(try have hq1_1:w.heap.size+1 < w1.heap.size:=by omega))
     | (go_at_call 58;(with_reducible refine (s_l1In_t HV.out).mono ?_);rintro e w2 ⟨rfl,rfl⟩))
    go_loopw [5] (fun i wr=>∃ k:Nat,i=.int .i64 k∧k≤q∧Hid (∀ (j:Nat) (s a r:Int),j < k→t.sym[j]?=some s→ar[j]?=some a→t.rank[j]?=some r→WtAt t.var q s a r)∧Ext w1 wr) (fun i _=>q - (intOf i).toNat)
    case atStart=>exact ⟨0,rfl,Nat.zero_le _,fun j s a r hj=>by omega,extX⟩
    case round=>
     obtain ⟨k,rfl,hk,hp,hE2⟩:=hrel;have hw:Ext w wr:=extX;have hb0:wr.cell? ⟨w.heap.size,0,none⟩=some (.slice A q c):=Ext.keep hE2 (by simp [go_sem,hc1,hq1_0]);have hb1:wr.cell? ⟨w.heap.size+1,0,none⟩=some (.int .i64 t.var):=Ext.keep hE2 (by simp [go_sem,hc1,hq1_1]);have hb2:wr.cell? ⟨w.heap.size+1,1,none⟩=some (.slice S q d):=Ext.keep hE2 (by simp [go_sem,hc1,hq1_1]);have hb3:wr.cell? ⟨w.heap.size+1,2,none⟩=some (.slice R q f):=Ext.keep hE2 (by simp [go_sem,hc1,hq1_1]);by_cases hlt:k < q
     .obtain ⟨b,o,s,rfl,hx,hcx⟩:=RI.at_ (RI.ext HS.out hw) hlt;obtain ⟨b',o',a,rfl,hy,hcy⟩:=RI.at_ (RI.ext HA.out hw) hlt;obtain ⟨b'',o'',r,rfl,hz,hcz⟩:=RI.at_ (RI.ext HR.out hw) hlt;have HX:=Lib.hid hx;have HY:=Lib.hid hy;have HZ:=Lib.hid hz;clear hx hy hz;have hlt':(k:Int) < (q:Int):=by omega
      have hk0:(0:Int)≤(k:Int):=by omega
      have hwq:IntKind.i64.wrap ((q:Int) - 1)=(q:Int) - 1:=IntWalk.i64_in _ (by omega);by_cases hin:0≤s∧s≤20
      .by_cases ha0:a=0
       .have e0:(a == 0)=true:=by simpa using ha0
        have e1:(a == 1)=false:=by simp;omega
        by_cases hsv:s < t.var
        .have e2:decide (s < t.var)=true:=by simpa using hsv
         have HIN:=Lib.hid hin;have HA0:=Lib.hid ha0;clear hin ha0;go_wp2;go_quiet ((go_at_call 58;exact Calls.quiet_of_same (q_l1In_t HIN.out)))
         go_wp2;have hin:=HIN.out;have ha0:=HA0.out;go_ret;exact ⟨ret_bool (wtOk_at HX.out HY.out HZ.out (by rw [HR.out.len];unfold WtAt;omega)).symm,extX⟩
        .have e2:decide (s < t.var)=false:=by simpa using hsv
         have HIN:=Lib.hid hin;have HA0:=Lib.hid ha0;clear hin ha0;go_wp2;go_quiet ((go_at_call 58;exact Calls.quiet_of_same (q_l1In_t HIN.out)))
         go_wp2;go_quiet (fail)
         go_wp2;have hin:=HIN.out;have ha0:=HA0.out;go_roundw;(case rel=>(refine ⟨k+1,by go_num,by omega,fun j s2 a2 r2 hj e1 e2 e3=>(Nat.lt_or_ge j k).elim (fun h=>hp.out j s2 a2 r2 h e1 e2 e3) (fun h=>by (obtain rfl:j=k:=by omega);rw [HX.out] at e1;rw [HY.out] at e2;rw [HZ.out] at e3;cases e1;cases e2;cases e3;unfold WtAt;omega),extX⟩));(case measure=>(simp [intOf];omega))
       .have e0:(a == 0)=false:=by simpa using ha0
        by_cases ha1:a=1
        .have e1:(a == 1)=true:=by simpa using ha1
         by_cases hs0:s=0
         .have e2:(s == 0)=true:=by simpa using hs0
          by_cases hr:r=(q:Int) - 1
          .have e3:(r != (q:Int) - 1)=false:=by simpa using hr
           have HIN:=Lib.hid hin;have HA0:=Lib.hid ha1;have HS0:=Lib.hid hs0;have HR0:=Lib.hid hr;clear hin ha0 ha1 hs0 hr;go_wp2;go_quiet ((go_at_call 58;exact Calls.quiet_of_same (q_l1In_t HIN.out)))
           go_wp2;go_quiet (fail)
           go_wp2;have hin:=HIN.out;have ha0:=HA0.out;have hs0:=HS0.out;have hr:=HR0.out;go_roundw;(case rel=>(refine ⟨k+1,by go_num,by omega,fun j s2 a2 r2 hj e1 e2 e3=>(Nat.lt_or_ge j k).elim (fun h=>hp.out j s2 a2 r2 h e1 e2 e3) (fun h=>by (obtain rfl:j=k:=by omega);rw [HX.out] at e1;rw [HY.out] at e2;rw [HZ.out] at e3;cases e1;cases e2;cases e3;unfold WtAt;omega),extX⟩));(case measure=>(simp [intOf];omega))
          .have e3:(r != (q:Int) - 1)=true:=by simpa using hr
           have HIN:=Lib.hid hin;have HA0:=Lib.hid ha1;have HS0:=Lib.hid hs0;have HR0:=Lib.hid hr;clear hin ha0 ha1 hs0 hr;go_wp2;go_quiet ((go_at_call 58;exact Calls.quiet_of_same (q_l1In_t HIN.out)))
           go_wp2;go_quiet (fail)
           go_wp2;have hin:=HIN.out;have ha0:=HA0.out;have hs0:=HS0.out;have hr:=HR0.out;go_ret;exact ⟨ret_bool (wtOk_at HX.out HY.out HZ.out (by rw [HR.out.len];unfold WtAt;omega)).symm,extX⟩
         .have e2:(s == 0)=false:=by simpa using hs0
          have HIN:=Lib.hid hin;have HA0:=Lib.hid ha1;have HS0:=Lib.hid hs0;clear hin ha0 ha1 hs0;go_wp2;go_quiet ((go_at_call 58;exact Calls.quiet_of_same (q_l1In_t HIN.out)))
          go_wp2;go_quiet (fail)
          go_wp2;have hin:=HIN.out;have ha0:=HA0.out;have hs0:=HS0.out;go_roundw;(case rel=>(refine ⟨k+1,by go_num,by omega,fun j s2 a2 r2 hj e1 e2 e3=>(Nat.lt_or_ge j k).elim (fun h=>hp.out j s2 a2 r2 h e1 e2 e3) (fun h=>by (obtain rfl:j=k:=by omega);rw [HX.out] at e1;rw [HY.out] at e2;rw [HZ.out] at e3;cases e1;cases e2;cases e3;unfold WtAt;omega),extX⟩));(case measure=>(simp [intOf];omega))
        .have e1:(a == 1)=false:=by simpa using ha1
         have HIN:=Lib.hid hin;have HA0:=Lib.hid ha0;have HA1:=Lib.hid ha1;clear hin ha0 ha1;go_wp2;go_quiet ((go_at_call 58;exact Calls.quiet_of_same (q_l1In_t HIN.out)))
         go_wp2;go_quiet (fail)
         go_wp2;have hin:=HIN.out;have ha0:=HA0.out;have ha1:=HA1.out;go_roundw;(case rel=>(refine ⟨k+1,by go_num,by omega,fun j s2 a2 r2 hj e1 e2 e3=>(Nat.lt_or_ge j k).elim (fun h=>hp.out j s2 a2 r2 h e1 e2 e3) (fun h=>by (obtain rfl:j=k:=by omega);rw [HX.out] at e1;rw [HY.out] at e2;rw [HZ.out] at e3;cases e1;cases e2;cases e3;unfold WtAt;omega),extX⟩));(case measure=>(simp [intOf];omega))
      .have HIN:=Lib.hid hin;clear hin;go_wp2;go_quiet ((go_at_call 58;exact Calls.quiet_of_same (q_l1In_f HIN.out)))
       go_wp2;have hin:=HIN.out;go_ret;exact ⟨ret_bool (wtOk_at HX.out HY.out HZ.out (by rw [HR.out.len];unfold WtAt;omega)).symm,extX⟩
     .go_wp2;go_ret;refine ⟨ret_bool (wtOk_all HK.out ?_ HV.out fun j s a r hj e1 e2 e3=>?_).symm,extX⟩
      .rw [HS.out.len,HA.out.len]
      .rw [HR.out.len];exact hp.out j s a r (by rw [HS.out.len] at hj;omega) e1 e2 e3
   .have hnn:((m:Int) != (n:Int))=true:=by simp;omega
    have HV:=Lib.hid hv;go_enter Tryz.func37,Tryz.ntmps37
    go_wp2_with (first
     | (go_at_call 56;(with_reducible refine (c_sRankOk (ar:=ar) (rk:=t.rank) z0q18 z0q18).mono ?_);rintro e w1 ⟨rfl,hE1⟩;have hz1:=sz_of hE1;(try simp only [World.size_alloc,World.size_setCell,World.size_drew] at hz1);obtain ⟨hc1,hf1⟩:=bcell hE1;(try have hq1_0:w.heap.size < w1.heap.size:=by omega);(try have hq1_1:w.heap.size+1 < w1.heap.size:=by omega))
     | (go_at_call 58;(with_reducible refine (s_l1In_t HV.out).mono ?_);rintro e w2 ⟨rfl,rfl⟩))
    go_ret;exact ⟨ret_bool (wtOk_len (by rw [HA.out.len,HS.out.len];omega)).symm,extX⟩
  .have HV:=Lib.hid hv;go_enter Tryz.func37,Tryz.ntmps37
   go_wp2_with (first
    | (go_at_call 56;(with_reducible refine (c_sRankOk (ar:=ar) (rk:=t.rank) z0q18 z0q18).mono ?_);rintro e w1 ⟨rfl,hE1⟩;have hz1:=sz_of hE1;(try simp only [World.size_alloc,World.size_setCell,World.size_drew] at hz1);obtain ⟨hc1,hf1⟩:=bcell hE1;(try have hq1_0:w.heap.size < w1.heap.size:=by omega);(try have hq1_1:w.heap.size+1 < w1.heap.size:=by omega))
    | (go_at_call 58;(with_reducible refine (s_l1In_f HV.out).mono ?_);rintro e w2 ⟨rfl,rfl⟩))
   go_ret;exact ⟨ret_bool (wtOk_var HV.out).symm,extX⟩
end Go.Proofs.YtiblbnkpjmmjaaaGreat
namespace Go.Proofs.YtiblbnkpjmmjaaaGreat
def oftP (s t:List Int):Prop:=∀ x∈s,x < 0→s.count x≤t.count x
instance (s t:List Int):Decidable (oftP s t):=by unfold oftP;infer_instance
def oft (s t:List Int):Bool:=decide (oftP s t)
theorem count_snoc {t:List Int} {k:Nat} {z x:Int} (h:t[k]?=some z):(t.take (k+1)).count x=(t.take k).count x+if z=x then 1 else 0:=by
 rw [take_snoc h,List.count_append]
 congr 1
 by_cases e:z=x
 .rw [if_pos e,e];simp
 .rw [if_neg e];simp [e]
theorem count_le_len {t:List Int} {x:Int} {n:Nat} (h:t.length=n):t.count x≤n:=h ▸ List.count_le_length
theorem oft_f {s t:List Int} {x:Int} {k:Nat} (h:s[k]?=some x) (h0:x < 0) (hc:t.count x < s.count x):oft s t=false:=by
 simp only [oft,decide_eq_false_iff_not];exact fun H=>absurd (H x (List.mem_of_getElem? h) h0) (by omega)
def OftTo (s t:List Int) (k:Nat):Prop:=∀ x∈s.take k,x < 0→s.count x≤t.count x
theorem OftTo.start {s t:List Int}:OftTo s t 0:=by intro x h;simp at h
theorem OftTo.done {s t:List Int} {k:Nat} (h:OftTo s t k) (hk:s.length≤k):oft s t=true:=by
 simp only [oft,decide_eq_true_eq];intro x hx;exact h x (by rw [List.take_of_length_le hk];exact hx)
theorem OftTo.step {s t:List Int} {k:Nat} {x:Int} (h:OftTo s t k) (hx:s[k]?=some x) (ho:x < 0→s.count x≤t.count x):OftTo s t (k+1):=by
 intro y hy h0;rw [take_snoc hx] at hy;rcases List.mem_append.1 hy with hy | hy
 .exact h y hy h0
 .rw [List.mem_singleton] at hy;subst hy;exact ho h0
def wt1 (W:Wt) (x:Int):Int:=if x < 0 then W.var else W.sym.getD x.toNat 0
def wtOf (W:Wt) (t:List Int):Int:=(t.map (wt1 W)).sum
theorem wt1_var {W:Wt} {x:Int} (h:x < 0):wt1 W x=W.var:=by unfold wt1;rw [if_pos h]
theorem wt1_sym {W:Wt} {x s:Int} (h:¬ x < 0) (hs:W.sym[x.toNat]?=some s):wt1 W x=s:=by
 unfold wt1;rw [if_neg h,List.getD_eq_getElem?_getD,hs];rfl
theorem wtOf_snoc {W:Wt} {t:List Int} {k:Nat} {x:Int} (h:t[k]?=some x):wtOf W (t.take (k+1))=wtOf W (t.take k)+wt1 W x:=by
 unfold wtOf;rw [take_snoc h,List.map_append,List.sum_append];simp
def WrAt (ar:List Int) (W:Wt) (x:Int):Prop:=0≤x∧ar[x.toNat]?=some 1∧W.sym[x.toNat]?=some 0
def WrP (ar:List Int) (W:Wt) (v:Int) (t:List Int):Prop:=
 (∀ (j:Nat) (x:Int),j+1 < t.length→t[j]?=some x→WrAt ar W x)∧1 < t.length∧t[t.length - 1]?=some v
noncomputable def wraps (ar:List Int) (W:Wt) (v:Int) (t:List Int):Bool:=@decide (WrP ar W v t) (Classical.propDecidable _)
theorem wraps_f {ar:List Int} {W:Wt} {v:Int} {t:List Int} (h:¬ WrP ar W v t):wraps ar W v t=false:=by simp only [wraps,decide_eq_false_iff_not];exact h
theorem wraps_t {ar:List Int} {W:Wt} {v:Int} {t:List Int} (h:WrP ar W v t):wraps ar W v t=true:=by simp only [wraps,decide_eq_true_eq];exact h
theorem wraps_at {ar:List Int} {W:Wt} {v:Int} {t:List Int} {j:Nat} {x:Int} (hj:j+1 < t.length) (hx:t[j]?=some x) (h:¬ WrAt ar W x):wraps ar W v t=false:=wraps_f fun p=>h (p.1 j x hj hx)
def rk1 (W:Wt) (x:Int):Int:=W.rank.getD x.toNat 0
theorem rk1_at {W:Wt} {x r:Int} (h:W.rank[x.toNat]?=some r):rk1 W x=r:=by unfold rk1;rw [List.getD_eq_getElem?_getD,h];rfl
mutual
noncomputable def kbo (ar:List Int) (W:Wt):Tm→Tm→Int
 | .node x as1,.node y bs=>
  if oft (Tm.node x as1).flat (Tm.node y bs).flat=false then 0
  else if wtOf W (Tm.node x as1).flat < wtOf W (Tm.node y bs).flat then 1
  else if wtOf W (Tm.node y bs).flat < wtOf W (Tm.node x as1).flat∨y < 0 then 0
  else if x < 0 then (if wraps ar W x (Tm.node y bs).flat=true then 2 else 0)
  else if rk1 W x < rk1 W y then 3
  else if x=y∧kboL ar W as1 bs=true then 4 else 0
noncomputable def kboL (ar:List Int) (W:Wt):List Tm→List Tm→Bool
 | a :: as1,b :: bs=>if a.flat=b.flat then kboL ar W as1 bs else decide (0 < kbo ar W a b)
 | _,_=>false
end
theorem kbo_node (ar:List Int) (W:Wt) (x y:Int) (as1 bs:List Tm):kbo ar W (.node x as1) (.node y bs) =
 if oft (Tm.node x as1).flat (Tm.node y bs).flat=false then 0
 else if wtOf W (Tm.node x as1).flat < wtOf W (Tm.node y bs).flat then 1
 else if wtOf W (Tm.node y bs).flat < wtOf W (Tm.node x as1).flat∨y < 0 then 0
 else if x < 0 then (if wraps ar W x (Tm.node y bs).flat=true then 2 else 0)
 else if rk1 W x < rk1 W y then 3
 else if x=y∧kboL ar W as1 bs=true then 4 else 0:=by rw [kbo]
theorem kboL_nil (ar:List Int) (W:Wt) (bs:List Tm):kboL ar W [] bs=false:=by rw [kboL];intros;contradiction
theorem kboL_cons (ar:List Int) (W:Wt) (a b:Tm) (as1 bs:List Tm):kboL ar W (a :: as1) (b :: bs)=if a.flat=b.flat then kboL ar W as1 bs else decide (0 < kbo ar W a b):=by rw [kboL]
def SameTo (as1 bs:List Tm) (k:Nat):Prop:=∀ j,j < k→∀ a b,as1[j]?=some a→bs[j]?=some b→a.flat=b.flat
theorem kboL_same {ar:List Int} {W:Wt}:∀ {k:Nat} {as1 bs:List Tm},as1.length=bs.length→SameTo as1 bs k→k≤as1.length→kboL ar W as1 bs=kboL ar W (as1.drop k) (bs.drop k)
 | 0,as1,bs,_,_,_=>by simp
 | k+1,[],bs,_,_,hk=>by simp at hk
 | k+1,a :: as1,[],hl,_,_=>by simp at hl
 | k+1,a :: as1,b :: bs,hl,h,hk=>by
  rw [kboL_cons,if_pos (h 0 (by omega) a b rfl rfl),List.drop_succ_cons,List.drop_succ_cons];exact kboL_same (by simpa using hl) (fun j hj a' b' e1 e2=>h (j+1) (by omega) a' b' (by simpa using e1) (by simpa using e2)) (by simpa using hk)
theorem kboL_end {ar:List Int} {W:Wt} {as1 bs:List Tm} (hl:as1.length=bs.length) (h:SameTo as1 bs as1.length):kboL ar W as1 bs=false:=by
 rw [kboL_same hl h (Nat.le_refl _),List.drop_length,kboL_nil]
theorem kboL_at {ar:List Int} {W:Wt} {as1 bs:List Tm} {k:Nat} {a b:Tm} (hl:as1.length=bs.length) (h:SameTo as1 bs k) (ha:as1[k]?=some a) (hb:bs[k]?=some b) (hne:¬ a.flat=b.flat):kboL ar W as1 bs=decide (0 < kbo ar W a b):=by
 obtain ⟨h1,rfl⟩:=List.getElem?_eq_some_iff.1 ha;obtain ⟨h2,rfl⟩:=List.getElem?_eq_some_iff.1 hb;rw [kboL_same hl h (by omega),List.drop_eq_getElem_cons h1,List.drop_eq_getElem_cons h2,kboL_cons,if_neg hne]
theorem SameTo.step {as1 bs:List Tm} {k:Nat} {a b:Tm} (h:SameTo as1 bs k) (ha:as1[k]?=some a) (hb:bs[k]?=some b) (e:a.flat=b.flat):SameTo as1 bs (k+1):=by
 intro j hj a' b' e1 e2;rcases Nat.lt_or_ge j k with h' | h'
 .exact h j h' a' b' e1 e2
 .obtain rfl:j=k:=by omega
  rw [ha] at e1;rw [hb] at e2;cases e1;cases e2;exact e
open Go.RowKit
def WB (W:Wt):Prop:=(0≤W.var∧W.var≤20)∧∀ s∈W.sym,0≤s∧s≤20
theorem WtP.wb {ar:List Int} {W:Wt} (h:WtP ar W):WB W:=by
 obtain ⟨h1,h2,h3,h4⟩:=h;refine ⟨⟨by omega,h3.2⟩,fun s hs=>?_⟩;obtain ⟨j,hj,rfl⟩:=List.mem_iff_getElem.1 hs;have ha:j < ar.length:=by omega
 have hr:j < W.rank.length:=by rw [h1.2.1];exact ha
 exact (h4 j _ _ _ (List.getElem?_eq_getElem hj) (List.getElem?_eq_getElem ha) (List.getElem?_eq_getElem hr)).1
theorem WtP.lt {ar t:List Int} {W:Wt} (h:WtP ar W) (hs:∀ x∈t,x < ar.length):∀ x∈t,x < W.sym.length:=fun x hx=>by rw [h.2.1];exact hs x hx
theorem mq18 {p:Prop} (h:p:=by simp only [intOf];omega):p:=h
theorem c_weigh {v0 v1:Value} {W:Wt} {t:List Int} {w:World} (h0:RdWt w v0 W) (h1:RdI w v1 t) (hW:WB W) (ht:∀ x∈t,x < W.sym.length) :
 Calls Tryz.prog 70 #[v0,v1] w fun e w'=>e=.returned (.int .i64 (wtOf W t))∧Ext w w':=by
 obtain ⟨A,n,c,B,m,d,rfl,ha,hb⟩:=h0;obtain ⟨D,q,l,rfl,hd⟩:=h1;have hq:=hd.le;obtain ⟨⟨hv1,hv2⟩,hs⟩:=hW;have hn:=ha.len;have HA:=Lib.hid ha;have HD:=Lib.hid hd;have HS:=Lib.hid hs;have HT:=Lib.hid ht;have HN:=Lib.hid hn;have HL:=Lib.hid hd.len;clear ha hb hd hs ht hn;go_enter Tryz.func70,Tryz.ntmps70;go_wp2;go_loop [5,10] (fun a i=>∃ k:Nat,i=.int .i64 k∧k≤q∧∃ y:Int,a=.int .i64 y∧Hid (y=wtOf W (t.take k))∧0≤y∧y≤20 * k) (fun _ i=>q - (intOf i).toNat)
 case atStart=>exact ⟨0,rfl,Nat.zero_le _,0,rfl,Lib.hid (by simp [wtOf]),by omega,by omega⟩
 case round=>
  obtain ⟨k,rfl,hk,y,rfl,hy,hy0,hy1⟩:=hrel;by_cases hlt:k < q
  .obtain ⟨b',o',z,rfl,hz,hcz⟩:=RI.at_ (RI.ext HD.out (extX:Ext w (w.alloc (.cells #[.int .i64 W.var,.slice A n c,.slice B m d] 35)))) hlt;have hzl:=HT.out z (List.mem_of_getElem? hz);have HZ:=Lib.hid (wtOf_snoc (W:=W) hz);clear hz;by_cases h0:z < 0
   .have HV:=Lib.hid (wt1_var (W:=W) h0);go_wp2;go_round
    case rel=>exact ⟨k+1,by go_num,by omega,y+W.var,by go_num,Lib.hid (by rw [HZ.out,← hy.out,HV.out]),by omega,by omega⟩
    case measure=>exact mq18
   .obtain ⟨z0,rfl⟩:=Int.eq_ofNat_of_zero_le (show 0≤z by omega);have hzn:z0 < n:=by rw [HN.out] at hzl;omega
    obtain ⟨b2,o2,s,rfl,hs,hcs⟩:=RI.at_ (RI.ext HA.out (extX:Ext w (w.alloc (.cells #[.int .i64 W.var,.slice A n c,.slice B m d] 35)))) hzn;have hsb:=HS.out s (List.mem_of_getElem? hs);obtain ⟨hs1,hs2⟩:=hsb;have HV:=Lib.hid (wt1_sym (W:=W) h0 (by rw [Int.toNat_natCast];exact hs));clear hs hzl;have hzi:(z0:Int) < (n:Int):=by omega
    go_wp2;go_round
    case rel=>exact ⟨k+1,by go_num,by omega,y+s,by go_num,Lib.hid (by rw [HZ.out,← hy.out,HV.out]),by omega,by omega⟩
    case measure=>exact mq18
  .go_wp2;go_ret;exact ⟨ret_int (by rw [hy.out,List.take_of_length_le (by rw [HL.out];omega)]),extX⟩
theorem c_l14Weight {v0 v1:Value} {W:Wt} {t:List Int} {w:World} (h0:RdWt w v0 W) (h1:RdI w v1 t) (hW:WB W) (ht:∀ x∈t,x < W.sym.length) :
 Calls Tryz.prog 81 #[v0,v1] w fun e w'=>e=.returned (.int .i64 (wtOf W t))∧Ext w w':=by
 obtain ⟨A,n,c,B,m,d,rfl,ha,hb⟩:=h0;obtain ⟨D,q,l,rfl,hd⟩:=h1;have hq:=hd.le;obtain ⟨⟨hv1,hv2⟩,hs⟩:=hW;have hn:=ha.len;have HA:=Lib.hid ha;have HD:=Lib.hid hd;have HS:=Lib.hid hs;have HT:=Lib.hid ht;have HN:=Lib.hid hn;have HL:=Lib.hid hd.len;clear ha hb hd hs ht hn;go_enter Tryz.func81,Tryz.ntmps81;go_wp2_with fail;obtain ⟨wo,hwo⟩:∃ wo,wo=w.alloc (.cells #[.int .i64 W.var,.slice A n c,.slice B m d] 35):=⟨_,rfl⟩;have hb0:wo.cell? ⟨w.heap.size,0,none⟩=some (.int .i64 W.var):=by rw [hwo];simp [go_sem]
 have hb1:wo.cell? ⟨w.heap.size,1,none⟩=some (.slice A n c):=by rw [hwo];simp [go_sem]
 have hEo:Ext w wo:=by rw [hwo];exact extX
 rw [← hwo];clear hwo;go_loopw [5,6] (fun a i wr=>∃ k:Nat,i=.int .i64 k∧k≤q∧(∃ y:Int,a=.int .i64 y∧Hid (y=wtOf W (t.take k))∧0≤y∧y≤20 * k)∧Ext wo wr) (fun _ i _=>q - (intOf i).toNat)
 case atStart=>exact ⟨0,rfl,Nat.zero_le _,⟨0,rfl,Lib.hid (by simp [wtOf]),by omega,by omega⟩,extX⟩
 case round=>
  obtain ⟨k,rfl,hk,⟨y,rfl,hy,hy0,hy1⟩,hE⟩:=hrel;have hr0:wr.cell? ⟨w.heap.size,0,none⟩=some (.int .i64 W.var):=Ext.keep hE hb0;have hr1:wr.cell? ⟨w.heap.size,1,none⟩=some (.slice A n c):=Ext.keep hE hb1;by_cases hlt:k < q
  .obtain ⟨b',o',z,rfl,hz,hcz⟩:=RI.at_ (RI.ext HD.out (extX:Ext w wr)) hlt;have hzl:=HT.out z (List.mem_of_getElem? hz);have HZ:=Lib.hid (wtOf_snoc (W:=W) hz);clear hz;by_cases h0:z < 0
   .have HV:=Lib.hid (wt1_var (W:=W) h0);go_wp2;go_roundw
    case rel=>exact ⟨k+1,by go_num,by omega,⟨y+W.var,by go_num,Lib.hid (by rw [HZ.out,← hy.out,HV.out]),by omega,by omega⟩,extX⟩
    case measure=>exact mq18
   .obtain ⟨z0,rfl⟩:=Int.eq_ofNat_of_zero_le (show 0≤z by omega);have hzn:z0 < n:=by rw [HN.out] at hzl;omega
    obtain ⟨b2,o2,s,rfl,hs,hcs⟩:=RI.at_ (RI.ext HA.out (extX:Ext w wr)) hzn;have hsb:=HS.out s (List.mem_of_getElem? hs);obtain ⟨hs1,hs2⟩:=hsb;have HV:=Lib.hid (wt1_sym (W:=W) h0 (by rw [Int.toNat_natCast];exact hs));clear hs hzl;have hzi:(z0:Int) < (n:Int):=by omega
    have hki:(k:Int) < (q:Int):=by omega
    go_wp2_with fail;go_quiet (fail)
    go_wp2;go_roundw
    case rel=>exact ⟨k+1,by go_num,by omega,⟨y+s,by go_num,Lib.hid (by rw [HZ.out,← hy.out,HV.out]),by omega,by omega⟩,extX⟩
    case measure=>exact mq18
  .go_wp2;go_ret;exact ⟨ret_int (by rw [hy.out,List.take_of_length_le (by rw [HL.out];omega)]),extX⟩

