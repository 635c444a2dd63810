/- -/
import Derived.Test.YtiblbnkpjmmjaaaGreatQ32
set_option maxRecDepth 100000
set_option maxHeartbeats 16000000
set_option linter.all false
namespace Go.Proofs.YtiblbnkpjmmjaaaGreat
open Go.RowKit
theorem c_tries {a b:Int} {w:World} (ha:1≤a) (ha2:a≤20001) (hb:1≤b) (hb2:b≤9):Calls Tryz.prog 36 #[.int .i64 a,.int .i64 b] w fun e w'=>e=.returned (.int .i64 (tri a b))∧w=w':=by
 have h:=prod_bd ha ha2 hb hb2;have h1:=h.1;have h2:=h.2;clear h;go_enter Tryz.func36,Tryz.ntmps36;go_wp2
 all_goals go_ret
 all_goals exact ⟨ret_int (by unfold tri;split<;>omega),rfl⟩
theorem c_mostOk {a:Int} {w:World}:Calls Tryz.prog 20 #[.int .i64 a] w fun e w'=>e=.returned (.bool (inB a 1 3))∧w=w':=by
 go_enter Tryz.func20,Tryz.ntmps20;go_wp2
 .go_ret;exact ⟨ret_bool (by unfold inB;rw [decide_eq_decide];omega),rfl⟩
 .go_ret;exact ⟨ret_bool (inB_f (by omega)).symm,rfl⟩
theorem triW_no {ar:List Int} {m:Int} (h:¬ (sigOk ar=true∧1≤m∧m≤3)):triW ar m = -1:=by unfold triW;rw [if_neg h]
theorem triP_no {ar:List Int} {m:Int} (h:¬ (sigOk ar=true∧1≤m∧m≤3)):triP ar m = -1:=by unfold triP;rw [if_neg h]
theorem ret_int2 {a b c d:Int} (h:a=b) (h':c=d):Ending.returned (.tuple #[.int .i64 a,.int .i64 c])=.returned (.tuple #[.int .i64 b,.int .i64 d]):=by rw [h,h']
theorem z0q33 {p:Prop} (h:p:=by (first | (first | (with_reducible exact RdI.mk (RI.ext (Hid.out (by with_reducible assumption)) extX)) | (with_reducible exact RdI.ext (by with_reducible assumption) extX)) | fail | (with_reducible exact RdSig.mk (by (first | (with_reducible exact RI.ext (Hid.out (by with_reducible assumption)) extX)))) | (with_reducible exact RdSig.ext (by with_reducible assumption) extX))):p:=h
theorem c_iTriesFor {v:Value} {ar:List Int} {most:Int} {w:World} (h0:RdSig w v ar) :
 Calls Tryz.prog 11 #[v,.int .i64 most] w fun e w'=>e=.returned (.tuple #[.int .i64 (triW ar most),.int .i64 (triP ar most)])∧Ext w w':=by
 obtain ⟨A,n,c,rfl,ha⟩:=h0;have hn:=ha.le;have HA:=Lib.hid ha;clear ha;rcases hs:sigOk ar with _ | _
 .go_enter Tryz.func11,Tryz.ntmps11;go_wp2_with (go_at_call 35;(with_reducible refine (c_iSigOk (ar:=ar) z0q33).mono ?_);rintro e w1 ⟨rfl,hE1⟩;have hz1:=sz_of hE1;(try simp only [World.size_alloc,World.size_setCell,World.size_drew] at hz1);obtain ⟨hc1,hf1⟩:=bcell hE1)
  go_ret2
  exact ⟨ret_int2 (triW_no (by simp [hs])).symm (triP_no (by simp [hs])).symm,extX⟩
 .by_cases hm:1≤most∧most≤3
  .obtain ⟨hm1,hm3⟩:=hm;have hin:=inB_t (n:=most) (lo:=1) (hi:=3) ⟨hm1,hm3⟩;have h8:=(sigOk_iff.1 hs).2.1;rw [HA.out.len] at h8;have HS:=Lib.hid hs;go_enter Tryz.func11,Tryz.ntmps11
   go_wp2_with (first
    | (go_at_call 35;(with_reducible refine (c_iSigOk (ar:=ar) z0q33).mono ?_);rintro e w1 ⟨rfl,hE1⟩;have hz1:=sz_of hE1;(try simp only [World.size_alloc,World.size_setCell,World.size_drew] at hz1);obtain ⟨hc1,hf1⟩:=bcell hE1)
    | (go_at_call 20;(with_reducible refine (c_mostOk (a:=most)).mono ?_);rintro e w2 ⟨rfl,rfl⟩))
   go_loop [6,7,21] (fun x y i=>∃ k:Nat,i=.int .i64 k∧k≤n∧x=.int .i64 (wAt most k)∧y=.int .i64 (pAt most (ar.take k))) (fun _ _ i=>n - (intOf i).toNat)
   case atStart=>exact ⟨0,rfl,Nat.zero_le _,rfl,rfl⟩
   case round=>
    obtain ⟨k,rfl,hk,rfl,rfl⟩:=hrel;have bw:=wAt_bd hm1 hm3 k (by omega);have bp:=pAt_bd hm1 hm3 (ar.take k);have bw1:=bw.1;have bw2:=bw.2;have bp1:=bp.1;have bp2:=bp.2;clear bw bp;by_cases hlt:k < n
    .obtain ⟨b,o,x,rfl,hx,hcx⟩:=RI.at_ (RI.ext HA.out (extX:Ext w w1)) hlt;have hx2:=(sigOk_iff.1 HS.out).2.2 x (List.mem_of_getElem? hx);have HX:=Lib.hid hx;clear hx;have t1:=tri_bd bw1 bw2 (b:=most+1) (by omega) (by omega);have t2:=tri_bd bp1 bp2 (b:=most+1) (by omega) (by omega);have t11:=t1.1;have t12:=t1.2;have t21:=t2.1;have t22:=t2.2;clear t1 t2
     go_wp2_with (first
      | (go_at_call 36;(with_reducible refine (c_tries (a:=wAt most k) (b:=most+1) bw1 bw2 (by omega) (by omega)).mono ?_);rintro e w2 ⟨rfl,rfl⟩)
      | (go_at_call 36;(with_reducible refine (c_tries (a:=tri (wAt most k) (most+1)) (b:=(k:Int)+1) t11 t12 (by omega) (by omega)).mono ?_);rintro e w2 ⟨rfl,rfl⟩)
      | (go_at_call 36;(with_reducible refine (c_tries (a:=pAt most (ar.take k)) (b:=most+1) bp1 bp2 (by omega) (by omega)).mono ?_);rintro e w2 ⟨rfl,rfl⟩))
     go_loop [7,38] (fun y i=>∃ q:Nat,i=.int .i64 q∧(q:Int)≤x∧y=.int .i64 (pIt most q (tri (pAt most (ar.take k)) (most+1)))) (fun _ i=>(x - intOf i).toNat)
     case atStart=>exact ⟨0,rfl,by omega,rfl⟩
     case round=>
      obtain ⟨q,rfl,hq,rfl⟩:=hrel;have bq:=pIt_bd hm1 hm3 ⟨t21,t22⟩ q;have bq1:=bq.1;have bq2:=bq.2;clear bq;by_cases hqx:(q:Int) < x
      .go_wp2_with (go_at_call 36;(with_reducible refine (c_tries (b:=most) bq1 bq2 hm1 (by omega)).mono ?_);rintro e w2 ⟨rfl,rfl⟩)
       go_round
       case rel=>exact ⟨q+1,by go_num,by omega,rfl⟩
       case measure=>simp [intOf];omega
      .go_wp2;go_round
       case rel=>
        refine ⟨k+1,by go_num,by omega,rfl,?_⟩;rw [take_snoc HX.out,pAt_snoc,show x.toNat=q by omega]
       case measure=>simp [intOf];omega
    .have hkn:k=n:=by omega
     subst hkn;have e1:triW ar most=enc (wAt most k):=by unfold triW;rw [if_pos ⟨HS.out,hm1,hm3⟩,HA.out.len]
     have e2:triP ar most=enc (pAt most (ar.take k)):=by unfold triP;rw [if_pos ⟨HS.out,hm1,hm3⟩,List.take_of_length_le (by rw [HA.out.len];exact Nat.le_refl _)]
     have E1:=Lib.hid e1;have E2:=Lib.hid e2;clear e1 e2;go_wp2
     all_goals go_ret2
     all_goals refine ⟨ret_int2 ?_ ?_,extX⟩
     all_goals first | rw [E1.out] | rw [E2.out]
     all_goals unfold enc
     all_goals first | rw [if_pos (by omega)] | rw [if_neg (by omega)]
  .have hin:=inB_f hm;go_enter Tryz.func11,Tryz.ntmps11
   go_wp2_with (first
    | (go_at_call 35;(with_reducible refine (c_iSigOk (ar:=ar) z0q33).mono ?_);rintro e w1 ⟨rfl,hE1⟩;have hz1:=sz_of hE1;(try simp only [World.size_alloc,World.size_setCell,World.size_drew] at hz1);obtain ⟨hc1,hf1⟩:=bcell hE1)
    | (go_at_call 20;(with_reducible refine (c_mostOk (a:=most)).mono ?_);rintro e w2 ⟨rfl,rfl⟩))
   go_ret2
   exact ⟨ret_int2 (triW_no (by simp;omega)).symm (triP_no (by simp;omega)).symm,extX⟩

