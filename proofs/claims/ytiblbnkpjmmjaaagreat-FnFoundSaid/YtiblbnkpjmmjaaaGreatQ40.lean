/- -/
import Derived.Test.YtiblbnkpjmmjaaaGreatQ39
set_option maxRecDepth 100000
set_option maxHeartbeats 16000000
set_option linter.all false
namespace Go.Proofs.YtiblbnkpjmmjaaaGreat
theorem x0q40 {p:Prop} (h:p:=by rw [hw1];simp [go_sem]):p:=h
open Go.RowKit
theorem mq40 {p:Prop} (h:p:=by simp only [intOf];omega):p:=h
theorem c_applied {v0 v1:Value} {p:Pl} {fs:List Pl} {w:World} (h0:RdPl w v0 p) (h1:RdPs w v1 fs) (hP:Parts p fs) (hl:p.cf.length=fs.length) :
 Calls Tryz.prog 115 #[v0,v1] w (NewF w (appP p fs)):=by
 obtain ⟨A,n,c,rfl,ha⟩:=h0;obtain ⟨B,m,d,rfl,hb⟩:=h1;have hnm:m=n:=by rw [← ha.len,← hb.len,hl]
 subst hnm;have hm3:m≤3:=by rw [← hb.len];exact hP.2.2.1
 have HA:=Zh ha;have HB:=Zh hb;have HM:=Zh hb.len;have HP:=Zh hP;obtain ⟨i0,hii,hiz,his,hib⟩:=info_parts int64_info;clear ha hb hP hl;go_enter Tryz.func115,Tryz.ntmps115;go_wp2_with fail;obtain ⟨w1,hw1⟩:∃ w1,w1=(w.alloc (.cells #[.int .i64 p.c,.slice A m c] 82)).alloc (.cells #[.int .i64 0,.slice none 0 0] 82):=⟨_,rfl⟩;have hs1:w.heap.size+1+1=w1.heap.size:=x0q40;have hb1:w1.cell? ⟨w.heap.size,1,none⟩=some (.slice A m c):=x0q40;have hc0:w1.cell? ⟨w.heap.size+1,0,none⟩=some (.int .i64 0):=x0q40;have hc1:w1.cell? ⟨w.heap.size+1,1,none⟩=some (.slice none 0 0):=x0q40;have hcf:∀ o,w1.frozen? ⟨w.heap.size+1,o,none⟩=false:=by intro o;rw [hw1];simp [go_sem]
 have hE1:Ext w w1:=by rw [hw1];exact extX
 rw [← hw1];clear hw1;try rw [hs1]
 have hlo1:w.heap.size+1 < w1.heap.size:=by omega
 clear hs1;go_loopw [16] (fun i wr=>∃ k:Nat,i=.int .i64 k∧k≤m∧Hid (∃ A cA,PB w1 wr (sumTo p fs k).c A cA (sumTo p fs k).cf)) (fun i _=>m - (intOf i).toNat)
 case atStart=>exact ⟨0,rfl,Nat.zero_le _,Zh ⟨none,0,PB.new w1 p.c _⟩⟩
 case round=>
  obtain ⟨k,rfl,hk,hP0⟩:=hrel;obtain ⟨A1,cA,P0⟩:=hP0.out;clear hP0;have hEr:Ext w1 wr:=P0.ex;have hEw:Ext w wr:=Ext.trans hE1 hEr;have hup:=sumTo_upto HP.out k;obtain ⟨c1,hc1d⟩:∃ c1,c1=(sumTo p fs k).c:=⟨_,rfl⟩;obtain ⟨xs,hxsd⟩:∃ xs,xs=(sumTo p fs k).cf:=⟨_,rfl⟩;have hcb:=hup.1.1;rw [← hc1d] at hcb;have HXB:=Zh (fun j=>hup.1.getD Zo j);rw [← hxsd] at HXB;have hxl:xs.length≤24:=by rw [hxsd];exact hup.2
  rw [← hc1d,← hxsd] at P0;have HCD:=Zh hc1d;have HXD:=Zh hxsd;clear hc1d hxsd;have hrb1:wr.cell? ⟨w.heap.size,1,none⟩=some (.slice A m c):=Ext.keep hEr hb1;have hrc0:=P0.c0;have hrc1:=P0.c1;have hrfr:=P0.fr;have hrlt:=P0.lt;by_cases hlt:k < m
  .obtain ⟨b,o,f,A',m',c',rfl,hf,hd1w,hd2w,hri⟩:=RP.at_ HB.out hlt;obtain ⟨b2,o2,q,rfl,hq,hcqw⟩:=RI.at_ HA.out hlt;have hd1:=Ext.keep hEw hd1w;have hd2:=Ext.keep hEw hd2w;have hcq:=Ext.keep hEw hcqw;have hqb:=HP.out.2.1 q (List.mem_of_getElem? hq);have hff:=HP.out.2.2.2 f (List.mem_of_getElem? hf);have hfl:=hff.2;have hfc:=hff.1.1;have HFB:=Zh (fun j=>hff.1.getD Zo j);have hm':f.cf.length=m':=hri.len;have hqf:=mul_bd hqb hfc;have HSUM:=Zh (show sumTo p fs (k+1)=addP (sumTo p fs k) f q from by
    rw [sumTo,List.getD_eq_getElem?_getD,hf,List.getD_eq_getElem?_getD,hq];rfl)
   have hkk:(k:Int)≤3:=by omega
   have hz1:IntKind.i64.wrap (q * f.c)=q * f.c:=IntWalk.i64_in _ Zo;have hz2:IntKind.i64.wrap (c1+q * f.c)=c1+q * f.c:=IntWalk.i64_in _ Zo;have hlt':(k:Int) < (m:Int):=by omega
   have HRI:=Zh hri;have hbl:b < wr.heap.size:=World.block_lt_of_cell? wr _ hd1;have hbl2:b2 < wr.heap.size:=World.block_lt_of_cell? wr _ hcq;clear hf hq hri hff hup;go_wp2_with fail;obtain ⟨wq,hwq⟩:∃ wq,wq=wr.alloc (.cells #[.int .i64 f.c,.slice A' m' c'] 82):=⟨_,rfl⟩;have hg0:wq.cell? ⟨wr.heap.size,0,none⟩=some (.int .i64 f.c):=by rw [hwq];simp [go_sem]
   have hg1:wq.cell? ⟨wr.heap.size,1,none⟩=some (.slice A' m' c'):=by rw [hwq];simp [go_sem]
   have hEq:Ext wr wq:=by rw [hwq];exact extX
   rw [← hwq];clear hwq;have hqs:wr.heap.size < wq.heap.size:=World.block_lt_of_cell? wq _ hg0;have P1:=P0.ext hEq;have hqb1:=Ext.keep hEq hrb1;have hqq:=Ext.keep hEq hcq;have hq0:=P1.c0;have hq1:=P1.c1;have hqf2:=P1.fr;clear hrb1 hcq hrc0 hrc1 hrfr hd1 hd2 hbl hbl2;go_still_tail 12,Zk
   change wpList _ _ _ _ _ wq.drew
   go_wp2_with fail;have P2:=(P1.setC (c1+q * f.c)).ext ((Ext.refl (wq.setCell ⟨w1.heap.size,0,none⟩ (.int .i64 (c1+q * f.c)))).drew);have hne:wr.heap.size≠w1.heap.size:=by omega
   have hA1:∀ g o s,A1=some ⟨g,o,s⟩→g≠wr.heap.size:=fun g o s e=>by have:=(P0.oA.bd g o s e).2;omega
   have hg2:(wq.setCell ⟨w1.heap.size,0,none⟩ (.int .i64 (c1+q * f.c))).drew.cell? ⟨wr.heap.size,1,none⟩=some (.slice A' m' c'):=by
    show (wq.setCell ⟨w1.heap.size,0,none⟩ (.int .i64 (c1+q * f.c))).cell? _=_;rw [World.cell?_setCell_other _ _ _ _ (by simp;try omega)];exact hg1
   obtain ⟨wd,hwd⟩:∃ wd,wd=(wq.setCell ⟨w1.heap.size,0,none⟩ (.int .i64 (c1+q * f.c))).drew:=⟨_,rfl⟩;rw [← hwd] at P2 hg2 ⊢;clear hwd P1 P0 hq0 hq1 hqf2 hqb1 hqq hg0 hg1;obtain ⟨wo,rfl⟩:∃ wo:World,wo=wr:=⟨_,rfl⟩;go_loopw [] (fun wr=>∃ t:Nat,xs.length+t≤max xs.length m'∧Hid (∃ A cA,PB w1 wr (c1+q * f.c) A cA (xs++List.replicate t 0)∧∀ g o s,A=some ⟨g,o,s⟩→g≠wo.heap.size)∧wr.cell? ⟨wo.heap.size,1,none⟩=some (.slice A' m' c')) (fun wr=>max xs.length m' - lenAt wr w1.heap.size)
   case atStart=>exact ⟨0,Zo,Zh ⟨A1,cA,by simpa using P2,hA1⟩,hg2⟩
   case round=>
    obtain ⟨t,ht,hP3,hg3⟩:=hrel;obtain ⟨A2,cA2,P3,hA2⟩:=hP3.out;clear hP3;have hE3:Ext w1 wr:=P3.ex;have hEw3:Ext w wr:=Ext.trans hE1 hE3;have h30:=P3.c0;have h31:=P3.c1;have h3f:=P3.fr;have h3lt:=P3.lt;have hpl:(xs++List.replicate t (0:Int)).length=xs.length+t:=by simp
    rw [hpl] at h31;have hg3l:wo.heap.size < wr.heap.size:=World.block_lt_of_cell? wr _ hg3;by_cases hmore:xs.length+t < m'
    .have HP3:=Zh P3;have HO:=Zh (show OwI wr (w1.heap.size+1) A2 (xs.length+t) cA2 (xs++List.replicate t 0) by have:=P3.oA;rwa [hpl] at this);have HPL:=Zh hpl;have HA2:=Zh hA2;clear P3 hpl hA2;have hmi:((xs.length+t:Nat):Int) < (m':Int):=by omega
     go_wp2_with (at_builtin;go_loud (refine wpList_append_lies _ rfl (.tmp 41) (.tmp 42) 27 rfl (w1.heap.size+1) 2 i0 (.int .i64 0) 1 8 Tryz.underlying27 hii hiz his hib rfl (by decide) _ _ _ rfl (OwI.alloc HO.out _).2 ⟨wr.heap.size,0,none⟩ 1 1 [.int .i64 0] rfl rfl (one_cells _ _ _) (one_one _) (by decide) (by unfold maxLen;omega) Zo (by go_size) _ rfl ?_))
     intro g cap wx hown hg hat hltg;have HFar:=Zh (PB.far HP3.out (by rw [HPL.out];exact hg));have hx0:wx.cell? ⟨w1.heap.size,1,none⟩=some (.slice A2 (xs.length+t) cA2):=(HFar.out.1 1).trans h31;have hxf:∀ j,wx.frozen? ⟨w1.heap.size,j,none⟩=false:=HFar.out.2;have hP4:=PB.push HP3.out (y:=0) (by rw [HPL.out];omega) (by rw [HPL.out,List.map_append,List.map_replicate,List.append_assoc];exact hown) (by rw [HPL.out];exact hg) (by rw [HPL.out];exact hat.imp id (fun e=>e.trans (by simp [go_sem]))) hltg;rw [HPL.out,List.append_assoc,show List.replicate t (0:Int)++[0]=List.replicate (t+1) 0 from List.replicate_succ'.symm] at hP4;have hg4:wx.cell? ⟨wo.heap.size,1,none⟩=some (.slice A' m' c'):=(hg.cell_far ⟨wo.heap.size,1,none⟩ (by simp [go_sem];omega) (fun e=>by
      cases A2 with
      | none=>cases e
      | some a=>obtain ⟨g',o',s'⟩:=a;simp [Value.ownBlock] at e;exact HA2.out _ _ _ rfl e.symm)).trans ((World.cell?_alloc_past _ _ _ hg3l).trans hg3)
     have hgn:g≠wo.heap.size:=by
      rcases hat with e | e
      .cases A2 with
       | none=>cases e
       | some a=>obtain ⟨g',o',s'⟩:=a;simp [Value.ownBlock] at e;subst e;exact HA2.out _ _ _ rfl
      .first | omega | (simp [go_sem] at e;omega)
     have hL4:=hP4.lenAt;have hL3:=HP3.out.lenAt;have HP4:=Zh hP4;have HL4:=Zh hL4;have HL3:=Zh hL3;clear hown hg hat hP4 hL4 hL3;go_wp2;go_roundw
     case rel=>exact ⟨t+1,Zo,Zh ⟨_,_,HP4.out,fun g' o' s' e=>by cases e;exact hgn⟩,by rw [World.cell?_setCell_other _ _ _ _ (by simp;try omega)];exact hg4⟩
     case measure=>rw [HL4.out,HL3.out];simp;omega
    .have htx:xs.length+t=max xs.length m':=by omega
     have HAT:=Zh (AddTo.start (bs:=f.cf) (m:=q) (old:=xs) (t:=t) (by rw [hm'];exact htx));have HP3:=Zh P3;have hmi:¬ ((xs.length+t:Nat):Int) < (m':Int):=by omega
     have hAx:max xs.length m'≤24:=by omega
     clear P3 hA2 hpl;go_wp2_with fail;obtain ⟨wp,rfl⟩:∃ wp:World,wp=wr:=⟨_,rfl⟩;go_loopw [48] (fun i wr=>∃ j:Nat,i=.int .i64 j∧j≤m'∧Hid (∃ A cA ys,PB w1 wr (c1+q * f.c) A cA ys∧AddTo xs f.cf q j ys)) (fun i _=>m' - (intOf i).toNat)
     case atStart=>exact ⟨0,rfl,Nat.zero_le _,Zh ⟨A2,cA2,_,HP3.out,HAT.out⟩⟩
     case round=>
      obtain ⟨j,rfl,hj,hP5⟩:=hrel;obtain ⟨A5,cA5,ys,P5,hAT⟩:=hP5.out;clear hP5;have hE5:Ext w1 wr:=P5.ex;have hEw5:Ext w wr:=Ext.trans hE1 hE5;have h51:=P5.c1;have hyl:ys.length=max xs.length m':=by rw [hAT.1,hm']
      by_cases hlt5:j < m'
      .obtain ⟨b5,o5,fb,rfl,hfb,hcfb⟩:=RI.at_ (RI.ext HRI.out hEw5) hlt5;rcases P5.oA.form with ⟨rfl,h0,_⟩ | ⟨g5,rfl,hg5,hg5l⟩
       .omega
       obtain ⟨y,hy,hcy,hfy⟩:=OwI.at_ P5.oA (k:=j) Zo;have hyv:y=nth xs j:=by
        have h1:=hAT.2 j;rw [if_neg Zo,Int.add_zero,getD_at hy] at h1;exact h1
       have hyb:0≤y∧y≤9+9 * (k * 1000000000000):=by rw [hyv];exact HXB.out j
       have hfbv:fb=nth f.cf j:=(getD_at hfb).symm;have hfbb:0≤fb∧fb≤1000000000000:=by rw [hfbv];exact HFB.out j
       have hqm:=mul_bd hqb hfbb;have hz3:IntKind.i64.wrap (q * fb)=q * fb:=IntWalk.i64_in _ Zo;have hz4:IntKind.i64.wrap (y+q * fb)=y+q * fb:=IntWalk.i64_in _ Zo;have hcq5:=Ext.keep hEw5 hcqw;have hb15:=Ext.keep hE5 hb1;have HP5:=Zh P5;have HAT2:=Zh (hAT.step hy hfb);have hjy:(j:Int) < (ys.length:Int):=by omega
       have hj0:(0:Int)≤(j:Int):=by omega
       have hjm:(j:Int) < (m':Int):=by omega
       clear P5 hAT hy hfb hyv hfbv hyl;go_wp2_with fail;go_still_tail 14,Zk
       change wpList _ _ _ _ _ wr.drew
       go_wp2;go_roundw
       case rel=>exact ⟨j+1,by go_num,Zo,Zh ⟨_,cA5,_,(HP5.out.setE j (y+q * fb)).ext ((Ext.refl _).drew),HAT2.out⟩⟩
       case measure=>exact mq40
      .have hjm:j=f.cf.length:=by omega
       subst hjm;have HEND:=Zh hAT.done;have HP5:=Zh P5;clear P5 hAT;go_wp2;go_roundw
       case rel=>exact ⟨k+1,by go_num,Zo,Zh ⟨A5,cA5,by rw [HSUM.out];show PB w1 _ ((sumTo p fs k).c+q * f.c) A5 cA5 (addL (sumTo p fs k).cf f.cf q);rw [← HCD.out,← HXD.out,← HEND.out];exact HP5.out⟩⟩
       case measure=>exact mq40
  .have hkm:k=m:=by omega
   have hq0:wr.cell? ⟨w.heap.size+1,0,none⟩=some (.int .i64 0):=Ext.keep hEr hc0;have hq1:wr.cell? ⟨w.heap.size+1,1,none⟩=some (.slice none 0 0):=Ext.keep hEr hc1;have hqf:∀ o,wr.frozen? ⟨w.heap.size+1,o,none⟩=false:=fun o=>(Below.frozen (p:=⟨w.heap.size+1,o,none⟩) hEr (by simp;omega)).trans (hcf o);have HAP:=Zh (show appP p fs=@ite _ (Big (sumTo p fs k)) (Classical.propDecidable _) none (some (sumTo p fs k)) by unfold appP;rw [HM.out,hkm]);have HPP:=Zh P0;by_cases hbc:1000000000000 < c1
   .have HR:=Zh (show appP p fs=none by rw [HAP.out,if_pos (.inl (by rw [← HCD.out];exact hbc))]);go_wp2;refine bodyPost_ret (v:=.tuple #[.agg #[.int .i64 0,.slice none 0 0],.bool false]) (by simp [results,Tryz.results115,go_sem,hq0,hq1,hqf]) rfl ?_;rw [HR.out];exact ⟨none,0,0,rfl,⟨Zo,World.ownsRow_nil _ _ _ _⟩,extX⟩
   .have hlenc:(xs.length:Int)≤24:=by omega
    by_cases hx0:xs.length=0
    .have HR:=Zh (show appP p fs=some (sumTo p fs k) by
      rw [HAP.out,if_neg];rw [big_nil (by rw [← HXD.out];exact List.eq_nil_of_length_eq_zero hx0),← HCD.out];exact hbc)
     have hx1:¬ (0:Int) < (xs.length:Int):=by omega
     go_wp2
     all_goals first
      | (exfalso;omega)
      | (refine bodyPost_ret (v:=.tuple #[.agg #[.int .i64 c1,.slice A1 0 cA],.bool true]) (by simp [results,Tryz.results115,go_sem,hq0,hq1,hqf]) rfl ?_
         rw [HR.out];refine ⟨A1,0,cA,by rw [HCD.out];rfl,?_,extX⟩;have h1:OwI wr w.heap.size A1 xs.length cA (rp (some (sumTo p fs k))).cf:=by
          show OwI _ _ _ _ _ (sumTo p fs k).cf;rw [← HXD.out];exact HPP.out.oA.lower Zo
         rw [hx0] at h1
         (repeat' (first | (with_reducible exact h1) | (with_reducible refine OwI.setFar ?_ _ (fun g o s e=>?_))))
         all_goals (have h3:=HPP.out.oA.bd g o s e;show g≠w.heap.size+1;omega))
    .have hx1:(0:Int) < (xs.length:Int):=by omega
     have hne:xs≠[]:=by intro e;rw [e] at hx0;exact hx0 rfl
     by_cases hmx:1000000000000 < maxL xs
     .have HR:=Zh (show appP p fs=none by
       rw [HAP.out,if_pos];rw [big_max (by rw [← HXD.out];exact hne),← HXD.out];exact .inr hmx)
      clear hne;go_wp2_with (go_at_call 120;(with_reducible refine (c_slicesMax (t:=xs) (RdI.mk HPP.out.oA.ri) Zo).mono ?_);rintro e w5 ⟨rfl,rfl⟩)
      all_goals first
      | (exfalso;omega)
      | (refine bodyPost_ret (v:=.tuple #[.agg #[.int .i64 0,.slice none 0 0],.bool false]) (by simp [results,Tryz.results115,go_sem,hq0,hq1,hqf]) rfl ?_
         rw [HR.out];exact ⟨none,0,0,rfl,⟨Zo,World.ownsRow_nil _ _ _ _⟩,extX⟩)
     .have HR:=Zh (show appP p fs=some (sumTo p fs k) by
       rw [HAP.out,if_neg];rw [big_max (by rw [← HXD.out];exact hne),← HXD.out,← HCD.out];exact fun h=>h.elim hbc hmx)
      clear hne;go_wp2_with (go_at_call 120;(with_reducible refine (c_slicesMax (t:=xs) (RdI.mk HPP.out.oA.ri) Zo).mono ?_);rintro e w5 ⟨rfl,rfl⟩)
      all_goals first
      | (exfalso;omega)
      | (refine bodyPost_ret (v:=.tuple #[.agg #[.int .i64 c1,.slice A1 xs.length cA],.bool true]) (by simp [results,Tryz.results115,go_sem,hq0,hq1,hqf]) rfl ?_
         rw [HR.out];refine ⟨A1,xs.length,cA,by rw [HCD.out];rfl,?_,extX⟩;have h1:OwI wr w.heap.size A1 xs.length cA (rp (some (sumTo p fs k))).cf:=by
          show OwI _ _ _ _ _ (sumTo p fs k).cf;rw [← HXD.out];exact HPP.out.oA.lower Zo
         skip
         (repeat' (first | (with_reducible exact h1) | (with_reducible refine OwI.setFar ?_ _ (fun g o s e=>?_))))
         all_goals (have h3:=HPP.out.oA.bd g o s e;show g≠w.heap.size+1;omega))
def OwQ (w:World) (B:Nat) (A:Option Addr) (n c:Nat) (fs:List Pl):Prop:=
 (n≤4194304∧fs.length=n)∧∃ vs,w.ownsRow B 82 2 (.slice A n c) n vs∧∀ (j:Nat) (f:Pl),fs[j]?=some f →
  vs[j * 2]?=some (.int .i64 f.c)∧∃ A' c',vs[j * 2+1]?=some (.slice A' f.cf.length c')∧OwI w B A' f.cf.length c' f.cf∧∀ b o s,A'=some ⟨b,o,s⟩→(Value.slice A n c).ownBlock≠some b
section
variable {w w' wx:World} {B:Nat} {A A':Option Addr} {n c c' g cap:Nat} {fs:List Pl} {f:Pl} {o:Obj} {vs:List Value}
theorem OwQ.nil (w:World) (B:Nat):OwQ w B none 0 0 []:=⟨⟨Zo,rfl⟩,[],World.ownsRow_nil _ _ _ _,fun j f h=>by simp at h⟩
theorem OwQ.ob (h:OwQ w B A n c fs):∀ k,(Value.slice A n c).ownBlock=some k→B≤k∧k < w.heap.size:=by
 obtain ⟨_,vs,ho,_⟩:=h;exact World.ownsRow.lt ho
theorem OwQ.ext (h:OwQ w B A n c fs) (k:Ext w w'):OwQ w' B A n c fs:=by
 obtain ⟨h1,vs,ho,hf⟩:=h;refine ⟨h1,vs,⟨ho.1,?_⟩,fun j f hj=>?_⟩
 .rcases ho.2 with h2 | ⟨g,cap,cur,hv,hg,hh,r⟩
  .exact .inl h2
  .exact .inr ⟨g,cap,cur,hv,hg,(k.block g (Array.getElem?_eq_some_iff.1 hh).1).trans hh,r⟩
 .obtain ⟨e1,A',c',e2,e3,e4⟩:=hf j f hj;exact ⟨e1,A',c',e2,e3.ext k,e4⟩
theorem OwQ.rp (h:OwQ w B A n c fs):RP w A n fs:=by
 obtain ⟨⟨hn,hl⟩,vs,ho,hf⟩:=h;refine ⟨⟨hl,hn⟩,fun h0=>?_⟩;obtain ⟨g,cap,hv,_,hlt⟩:=World.ownsRow.form ho h0;cases hv;refine ⟨g,0,rfl,fun j p hp=>?_⟩;have hj:j < n:=by have:=(List.getElem?_eq_some_iff.1 hp).1;omega
 obtain ⟨e1,A',c',e2,e3,_⟩:=hf j p hp;refine ⟨?_,A',_,c',?_,e3.ri⟩
 .rw [Nat.zero_add,World.ownsRow.cellAt ho _ Zo];exact e1
 .rw [Nat.zero_add,World.ownsRow.cellAt ho _ Zo];exact e2
theorem two_cells (w:World) (x y:Value) (t:TypeId):∀ (j:Nat) (u:Value),[x,y][j]?=some u→(w.alloc (.cells #[x,y] t)).cell? ((⟨w.heap.size,0,none⟩:Addr).add j)=some u:=by
 intro j u hj
 match j,hj with
 | 0,hj=>simp at hj;subst hj;simp [Addr.add,go_sem]
 | 1,hj=>simp at hj;subst hj;simp [Addr.add,go_sem]
theorem two_cells' {w:World} {H:Nat} (hH:w.heap.size=H) (x y:Value) (t:TypeId):∀ (j:Nat) (u:Value),[x,y][j]?=some u→(w.alloc (.cells #[x,y] t)).cell? ((⟨H,0,none⟩:Addr).add j)=some u:=by
 subst hH;exact two_cells w x y t
theorem two_one (x:Int) (A:Option Addr) (n c:Nat):∀ u∈[Value.int .i64 x,Value.slice A n c],u.oneCell'=true:=by
 intro u hu;simp at hu;rcases hu with rfl | rfl<;>rfl
theorem OwQ.push (h1:n+1≤4194304) (hl:fs.length=n) (hvl:vs.length=n * 2)
 (hf:∀ (j:Nat) (f:Pl),fs[j]?=some f→vs[j * 2]?=some (.int .i64 f.c)∧∃ A' c',vs[j * 2+1]?=some (.slice A' f.cf.length c')∧OwI w B A' f.cf.length c' f.cf∧∀ b o s,A'=some ⟨b,o,s⟩→(Value.slice A n c).ownBlock≠some b)
 (hO:OwI w B A' f.cf.length c' f.cf) (hfar:∀ b o s,A'=some ⟨b,o,s⟩→(Value.slice A n c).ownBlock≠some b)
 (hown:wx.ownsRow B 82 2 (.slice (some ⟨g,0,none⟩) (n+1) cap) (n+1) (vs++[.int .i64 f.c,.slice A' f.cf.length c']))
 (hg:(w.alloc o).grownBy wx (Value.slice A n c).ownBlock) (hat:(Value.slice A n c).ownBlock=some g∨g=(w.alloc o).heap.size) :
 OwQ wx B (some ⟨g,0,none⟩) (n+1) cap (fs++[f]):=by
 have hsz:(w.alloc o).heap.size=w.heap.size+1:=by simp [go_sem]
 have hkeep:∀ (A'':Option Addr) (c'':Nat) (q:Pl),OwI w B A'' q.cf.length c'' q.cf→(∀ b o s,A''=some ⟨b,o,s⟩→(Value.slice A n c).ownBlock≠some b) →
  OwI wx B A'' q.cf.length c'' q.cf∧∀ b o s,A''=some ⟨b,o,s⟩→(Value.slice (some ⟨g,0,none⟩) (n+1) cap).ownBlock≠some b:=by
  intro A'' c'' q hq hfq;refine ⟨hq.heap fun b hb=>?_,fun b o s e e2=>?_⟩
  .have hb1:=hq.bd _ _ _ hb;exact (hg.block b Zo (fun e=>hfq b 0 none hb e.symm)).trans ((Ext.alloc (Ext.refl w) o).block b hb1.2)
  .have hb1:=hq.bd _ _ _ e;simp [Value.ownBlock] at e2;subst e2;rcases hat with e3 | e3
   .exact hfq g o s e e3
   .omega
 refine ⟨⟨h1,by simp [hl]⟩,_,hown,fun j q hq=>?_⟩;rcases Nat.lt_or_ge j n with hj | hj
 .rw [List.getElem?_append_left Zo] at hq;obtain ⟨e1,A'',c'',e2,e3,e4⟩:=hf j q hq;obtain ⟨k1,k2⟩:=hkeep A'' c'' q e3 e4;exact ⟨by rw [List.getElem?_append_left Zo];exact e1,A'',c'',by rw [List.getElem?_append_left Zo];exact e2,k1,k2⟩
 .have hjn:j=n:=by have:=(List.getElem?_eq_some_iff.1 hq).1;simp [hl] at this;omega
  subst hjn;rw [List.getElem?_append_right Zo,hl,Nat.sub_self] at hq;cases hq;obtain ⟨k1,k2⟩:=hkeep A' c' f hO hfar;exact ⟨by rw [List.getElem?_append_right Zo,hvl,Nat.sub_self];rfl,A',c',by rw [List.getElem?_append_right Zo,hvl,show j * 2+1 - j * 2=1 by omega];rfl,k1,k2⟩
end
theorem mem_flatL {a:Tm} {y:Int} (hy:y∈a.flat):∀ {us:List Tm},a∈us→y∈flatL us
 | b :: us,h=>by
  rw [flatL_cons];rcases List.mem_cons.1 h with rfl | h
  .exact List.mem_append_left _ hy
  .exact List.mem_append_right _ (mem_flatL hy h)
def PsAt (ar:List Int) (ps:List Pl) (h:Nat):Prop:=∀ (x:Nat) (a:Nat),arI ar (x:Int)=some a→∃ q,ps[x+h]?=some q∧q.cf.length=a∧(0≤q.c∧q.c≤9)∧∀ y∈q.cf,0≤y∧y≤9
noncomputable def formM (ps:List Pl) (h:Nat):Tm→Option Pl
 | .node x us=>if x < 0 then some (varPl x) else (formL ps us).bind fun fs=>appP (ps.getD (x.toNat+h) ⟨0,[]⟩) fs
theorem formM_node (ps:List Pl) (h:Nat) (x:Int) (us:List Tm):formM ps h (.node x us)=if x < 0 then some (varPl x) else (formL ps us).bind fun fs=>appP (ps.getD (x.toNat+h) ⟨0,[]⟩) fs:=rfl
theorem formM_zero (ps:List Pl) (u:Tm):formM ps 0 u=form ps u:=by
 cases u;rw [form_node];rfl
theorem formM_var {ps:List Pl} {h:Nat} {x:Int} {us:List Tm} (hx:x < 0):formM ps h (.node x us)=some (varPl x):=by
 rw [formM_node,if_pos hx]
theorem formM_none {ps:List Pl} {h:Nat} {x:Int} {us:List Tm} (hx:¬ x < 0) (hn:formL ps us=none):formM ps h (.node x us)=none:=by
 rw [formM_node,if_neg hx,hn];rfl
theorem formM_some {ps:List Pl} {h:Nat} {x:Int} {us:List Tm} {fs:List Pl} {q:Pl} (hx:¬ x < 0) (hn:formL ps us=some fs) (hq:ps[x.toNat+h]?=some q):formM ps h (.node x us)=appP q fs:=by
 rw [formM_node,if_neg hx,hn];show appP _ _=_;rw [List.getD_eq_getElem?_getD,hq];rfl
abbrev FormAtI (ar:List Int) (ps:List Pl) (u:Tm):Prop:=∀ (v0 v1 v2:Value) (t rest:List Int) (P:Int) (p:Nat) (w:World),P=(p:Int)→RdSig w v0 ar→RdPs w v1 ps→RdI w v2 t→t.drop p=u.flat++rest →
 Calls Tryz.prog 73 #[v0,v1,v2,.int .i64 P] w (NewF w (form ps u))
theorem polys_info:(Tryz.prog.info? 82).map (fun i=>(i.zero,i.size,i.bytes))=some (some (.agg #[.int .i64 0,.slice none 0 0]),2,32):=Zk
theorem c_markedForm {v0 v1 v2:Value} {ar t rest:List Int} {ps:List Pl} {h p:Nat} {x:Int} {us:List Tm} {w:World} (h0:RdSig w v0 ar) (h1:RdPs w v1 ps) (h2:RdI w v2 t) (hd:t.drop p=(Tm.node x us).flat++rest)
 (hs:SigP ar) (hu:(Tm.node x us).Ok ar) (hv:∀ y∈(Tm.node x us).flat,-24≤y) (hps:PsAt ar ps h) (h0s:PsAt ar ps 0) (hh:h≤8) (hall:∀ p∈ps,(0≤p.c∧p.c≤9)∧∀ x∈p.cf,0≤x∧x≤9) (ih:∀ a∈us,FormAtI ar ps a) :
 Calls Tryz.prog 101 #[v0,v1,.int .i64 (h:Int),v2,.int .i64 (p:Int)] w (NewF w (formM ps h (.node x us))):=by
 obtain ⟨A,n,c,rfl,ha⟩:=h0;obtain ⟨B,m,d,rfl,hb⟩:=h1;obtain ⟨D,l,e,rfl,hdd⟩:=h2;have hll:=hdd.len;have hlt:=drop_lt hd (flat_pos _);rw [hll] at hlt;have hxp:t[p]?=some x:=drop_head (by rw [← flat_node];exact hd);have hpos:=flat_pos (Tm.node x us);obtain ⟨bt,ot,y,rfl,hy,hcy⟩:=RI.at_ hdd (show p < l by omega);rw [hxp] at hy;cases hy;have hpl:(p:Int) < (l:Int):=by omega
 have hbt:bt < w.heap.size:=World.block_lt_of_cell? w _ hcy;have HA:=Zh ha;have HB:=Zh hb;have HD:=Zh hdd;have HDR:=Zh hd;have HS:=Zh hs;have HU:=Zh hu;have HI:=Zh ih;have HALL:=Zh hall;clear hall;by_cases hx:x < 0
 .have HR:=Zh (formM_var (ps:=ps) (h:=h) (us:=us) hx);have hx24 : -24≤x:=hv x (by rw [flat_node];exact List.mem_cons_self);clear ha hb hdd hd hs hu ih hps hxp hv h0s;go_enter Tryz.func101,Tryz.ntmps101;go_wp2_with fail
  (with_reducible refine (c_varForm hx hx24).mono ?_);rintro e2 w2 ⟨A2,n2,c2,rfl,hO2,hE2⟩;have HO2:=Zh hO2;have hbd2:=Zh hO2.bd;clear hO2;have hq0:w2.cell? ⟨w.heap.size+1,0,none⟩=some (.int .i64 0):=Ext.keep hE2 (by simp [go_sem]);have hq1:w2.cell? ⟨w.heap.size+1,1,none⟩=some (.slice none 0 0):=Ext.keep hE2 (by simp [go_sem]);have hq1l:w.heap.size+1 < w2.heap.size:=World.block_lt_of_cell? w2 _ hq0;have hqf:∀ o,w2.frozen? ⟨w.heap.size+1,o,none⟩=false:=fun o=>(Below.frozen (p:=⟨w.heap.size+1,o,none⟩) hE2 (by simp [go_sem])).trans (by simp [go_sem]);have hEw:Ext w w2:=Ext.trans extX hE2;clear hE2;go_wp2;refine bodyPost_ret (v:=.tuple #[.agg #[.int .i64 (varPl x).c,.slice A2 n2 c2],.bool true]) (by simp [results,Tryz.results101,go_sem,hq0,hq1,hqf]) rfl ?_;rw [HR.out];refine ⟨A2,n2,c2,rfl,?_,extX⟩;have h3:OwI w2 w.heap.size A2 n2 c2 (varPl x).cf:=HO2.out.lower (by simp [go_sem];try omega);show OwI _ w.heap.size A2 n2 c2 (varPl x).cf
  (repeat' (first | (with_reducible exact h3) | (with_reducible refine OwI.setFar ?_ _ (fun g o s e=>?_))))
  all_goals (have h4:=hbd2.out g o s e;simp [go_sem] at h4;show g≠w.heap.size+1;omega)
 .obtain ⟨x0,rfl⟩:=Int.eq_ofNat_of_zero_le (show 0≤x by omega);obtain ⟨hok,hol⟩:=Ok_node.1 hu;obtain ⟨q,hq,hql,hqc,hqcf⟩:=hps x0 us.length hok;have hal:us.length≤3:=arI_le hs hok;have hx8:x0 < 8:=by have:=arI_lt hok;have:=hs.2.1;omega
  have HOL:=Zh (OkL_iff.1 hol);have HVL:=Zh (fun a (hm:a∈us)=>(fun y hy=>hv y (by rw [flat_node];exact List.mem_cons_of_mem _ (mem_flatL hy hm)):∀ y∈a.flat,-24≤y));have HQ:=Zh hq;have HQL:=Zh hql;have HQB:=Zh (And.intro hqc hqcf);obtain ⟨i0,hii,hiz,his,hib⟩:=info_parts polys_info;clear ha hb hdd hd hs hu ih hps hxp hv h0s hok hol hq hql hqc hqcf;go_enter Tryz.func101,Tryz.ntmps101;go_wp2_with fail
  (with_reducible refine (c_argsAt (p:=p) (RdSig.mk (RI.ext HA.out extX)) (RdI.mk (RI.ext HD.out extX)) HS.out HU.out HDR.out).mono ?_);rintro e2 w2 ⟨A2,n2,c2,rfl,hn2,hr2,hE2⟩;subst hn2;have HR2:=Zh hr2;clear hr2;have hs0:w2.cell? ⟨w.heap.size,0,none⟩=some (.slice A n c):=Ext.keep hE2 (by simp [go_sem]);have hq0:w2.cell? ⟨w.heap.size+1,0,none⟩=some (.int .i64 0):=Ext.keep hE2 (by simp [go_sem]);have hq1:w2.cell? ⟨w.heap.size+1,1,none⟩=some (.slice none 0 0):=Ext.keep hE2 (by simp [go_sem]);have hq1l:w.heap.size+1 < w2.heap.size:=World.block_lt_of_cell? w2 _ hq0;have hqf:∀ o,w2.frozen? ⟨w.heap.size+1,o,none⟩=false:=fun o=>(Below.frozen (p:=⟨w.heap.size+1,o,none⟩) hE2 (by simp [go_sem])).trans (by simp [go_sem]);have hEw:Ext w w2:=Ext.trans extX hE2;clear hE2;go_wp2_with fail;go_loopw [12,32] (fun ov iv wr=>∃ k:Nat,iv=.int .i64 k∧k≤us.length∧(∃ A c,ov=.slice A k c∧Hid (∃ fs,OwQ wr w2.heap.size A k c fs∧∀ (j:Nat) (a:Tm) (f:Pl),us[j]?=some a→fs[j]?=some f→form ps a=some f))∧Ext w2 wr) (fun _ iv _=>us.length - (intOf iv).toNat)
  case atStart=>exact ⟨0,rfl,Nat.zero_le _,⟨none,0,rfl,Zh ⟨[],OwQ.nil _ _,fun j a f h1 h2=>by simp at h2⟩⟩,Ext.refl _⟩
  case round=>
   obtain ⟨k,rfl,hk,⟨A3,c3,rfl,hQ⟩,hE3⟩:=hrel;obtain ⟨gs,hO3,hfm⟩:=hQ.out;clear hQ;have hr0:=Ext.keep hE3 hs0;have hr1:=Ext.keep hE3 hq0;have hr2:=Ext.keep hE3 hq1;have hrf:∀ o,wr.frozen? ⟨w.heap.size+1,o,none⟩=false:=fun o=>(Below.frozen (p:=⟨w.heap.size+1,o,none⟩) hE3 hq1l).trans (hqf o);have hEwr:Ext w wr:=Ext.trans hEw hE3;have hwl:w.heap.size+1 < wr.heap.size:=World.block_lt_of_cell? wr _ hr1;by_cases hlt:k < us.length
   .obtain ⟨a,hak⟩:∃ a,us[k]?=some a:=⟨us[k],List.getElem?_eq_getElem hlt⟩;obtain ⟨b1,o1,z1,rfl,hz1,hc1⟩:=RI.at_ (RI.ext HR2.out hE3) hlt;rw [starts_get hlt] at hz1;injection hz1 with hz1;subst hz1
    have HDA:=Zh (drop_arg HDR.out hak);have HIA:=Zh (HI.out a (List.mem_of_getElem? hak));have hki:(k:Int) < (us.length:Int):=by omega
    cases hfa:form ps a with
    | none=>
     have HR:=Zh (formM_none (ps:=ps) (h:=h) (x:=(x0:Int)) (us:=us) Zo (formL_none hak hfa));clear hak;go_wp2_with fail
     (with_reducible refine (HIA.out _ _ _ t _ _ (p+1+(flatL (us.take k)).length) _ Zo (RdSig.mk (RI.ext HA.out hEwr)) (RdPs.mk (RP.ext HB.out hEwr)) (RdI.mk (RI.ext HD.out hEwr)) HDA.out).mono ?_);intro e5 w5 hN0;obtain ⟨A5,n5,c5,rfl,hO5,hE5⟩:∃ A n c,e5=.returned (.tuple #[.agg #[.int .i64 0,.slice A n c],.bool false])∧OwI w5 wr.heap.size A n c []∧Ext wr w5:=by rw [hfa] at hN0;exact hN0
     clear hN0 hO5;have hv0:=Ext.keep hE5 hr1;have hv1:=Ext.keep hE5 hr2;have hvf:∀ o,w5.frozen? ⟨w.heap.size+1,o,none⟩=false:=fun o=>(Below.frozen (p:=⟨w.heap.size+1,o,none⟩) hE5 hwl).trans (hrf o);have hwl5:w.heap.size+1 < w5.heap.size:=World.block_lt_of_cell? w5 _ hv0;have hEw5:Ext w w5:=Ext.trans hEwr hE5;go_wp2;refine bodyPost_ret (v:=.tuple #[.agg #[.int .i64 0,.slice none 0 0],.bool false]) (by simp [results,Tryz.results101,go_sem,hv0,hv1,hvf,hwl5]) rfl ?_;rw [HR.out];exact ⟨none,0,0,rfl,⟨Zo,World.ownsRow_nil _ _ _ _⟩,extX⟩
    | some f=>
     go_wp2_with fail
     (with_reducible refine (HIA.out _ _ _ t _ _ (p+1+(flatL (us.take k)).length) _ Zo (RdSig.mk (RI.ext HA.out hEwr)) (RdPs.mk (RP.ext HB.out hEwr)) (RdI.mk (RI.ext HD.out hEwr)) HDA.out).mono ?_);intro e5 w5 hN0;obtain ⟨A5,n5,c5,rfl,hO5,hE5⟩:∃ A n c,e5=.returned (.tuple #[.agg #[.int .i64 f.c,.slice A n c],.bool true])∧OwI w5 wr.heap.size A n c f.cf∧Ext wr w5:=by rw [hfa] at hN0;exact hN0
     clear hN0;have hn5:=hO5.len;subst hn5;have hob:=hO3.ob;have hfar:∀ b o s,A5=some ⟨b,o,s⟩→(Value.slice A3 k c3).ownBlock≠some b:=fun b o s e e2=>by have:=(hO5.bd b o s e).1;have:=(hob b e2).2;omega
     have hws:=hE3.size;obtain ⟨⟨hn6,hl6⟩,vs,ho6,hf6⟩:=hO3.ext ((hE5).alloc (.cells #[.int .i64 f.c,.slice A5 f.cf.length c5] 82));have hvl6:vs.length=k * 2:=ho6.1;have HO6:=Zh ho6;have HF6:=Zh hf6;have HO5:=Zh ((hO5.lower (B':=w2.heap.size) hws).ext ((Ext.refl w5).alloc (.cells #[.int .i64 f.c,.slice A5 f.cf.length c5] 82)));have HFM:=Zh hfm;have HAK:=Zh hak;have HFAR:=Zh hfar;have HGL:=Zh hl6;have hs5:=hE5.size;clear ho6 hf6 hO5 hfm hak hfar hl6 hob hO3;go_wp2_with (at_builtin;go_loud (refine wpList_append_lies _ rfl (.tmp 47) (.tmp 49) 38 rfl w2.heap.size 82 i0 (.agg #[.int .i64 0,.slice none 0 0]) 2 32 Tryz.underlying38 hii hiz his hib rfl (by decide) _ k vs rfl (World.ownsRow.alloc HO6.out _) ⟨w5.heap.size+1,0,none⟩ 1 1 [.int .i64 f.c,.slice A5 f.cf.length c5] rfl rfl (two_cells' (by simp [go_sem]) _ _ _) (two_one _ _ _ _) (by decide) (by unfold maxLen;omega) Zo (by simp [go_sem];omega) _ rfl ?_))
     intro g cap wx hown hg hat hltg;have HQ2:=Zh (OwQ.push Zo HGL.out hvl6 HF6.out HO5.out HFAR.out hown hg (hat.imp id (fun e=>e.trans (by simp [go_sem]))));have hE6:Ext w2 wx:=Ext.grown (((Ext.trans hE3 hE5).alloc _).alloc _) hg (fun b hb=>(World.ownsRow.lt HO6.out b hb).1);clear hown hg hat
     go_wp2;go_roundw
     case rel=>
      refine ⟨k+1,by go_num,Zo,⟨_,_,rfl,Zh ⟨gs++[f],HQ2.out,fun j a' f' h1 h2=>?_⟩⟩,hE6⟩;rcases Nat.lt_or_ge j k with hj | hj
      .exact HFM.out j a' f' h1 (by rwa [List.getElem?_append_left (by rw [HGL.out];exact hj)] at h2)
      .have hjk:j=k:=by have:=(List.getElem?_eq_some_iff.1 h2).1;simp [HGL.out] at this;omega
       subst hjk;rw [List.getElem?_append_right (by rw [HGL.out];omega),HGL.out,Nat.sub_self] at h2;rw [HAK.out] at h1;cases h1;cases h2;exact hfa
     case measure=>exact mq40
   .have hkn:k=us.length:=by omega
    have hgl:gs.length=k:=hO3.1.2;have hfl:formL ps us=some gs:=formL_some Zo hfm;have HR:=Zh (formM_some (h:=h) (x:=(x0:Int)) (us:=us) Zo hfl (by rw [Int.toNat_natCast];exact HQ.out));have hml:x0+h < m:=by have:=(List.getElem?_eq_some_iff.1 HQ.out).1;rw [HB.out.len] at this;exact this
    obtain ⟨b4,o4,q',A4,m4,c4,rfl,hq',hd1w,hd2w,hri4⟩:=RP.at_ HB.out hml;rw [HQ.out] at hq';cases hq';have hd1:=Ext.keep hEwr hd1w;have hd2:=Ext.keep hEwr hd2w;have hcy5:=Ext.keep hEwr hcy;have HR4:=Zh hri4;have HG:=Zh hO3.rp;have HPA:=Zh (show Parts q gs from ⟨HQB.out.1,HQB.out.2,Zo,fun f hf=>by
     obtain ⟨j,hj,e⟩:=List.mem_iff_getElem.1 hf;have hju:j < us.length:=by omega
     have h1:us[j]?=some us[j]:=List.getElem?_eq_getElem hju;exact form_fm (ar:=ar) HALL.out (fun y b hb=>arI_le HS.out hb) us[j] (HOL.out _ (List.getElem_mem hju)) (HVL.out _ (List.getElem_mem hju)) f (hfm j us[j] f h1 (by rw [List.getElem?_eq_getElem hj,e]))⟩)
    have HLE:=Zh (show q.cf.length=gs.length by rw [HQL.out];omega);have hxi:(x0:Int)+(h:Int) < (m:Int):=by omega
    have hx0i:(0:Int)≤(x0:Int)+(h:Int):=by omega
    have hxn:((x0:Int)+(h:Int)).toNat=x0+h:=by omega
    clear hfm hO3 hd1w hd2w hri4 hfl hgl;have hkn':=hkn;go_wp2_with fail
    (with_reducible refine (c_applied (p:=q) (fs:=gs) (RdPl.mk (RI.ext HR4.out hEwr)) (RdPs.mk (n:=us.length) (by rw [← hkn'];exact HG.out)) HPA.out HLE.out).mono ?_);rintro e6 w6 ⟨A6,n6,c6,rfl,hO6,hE6⟩;have HO6:=Zh hO6;have HB6:=Zh hO6.bd;have hv0:=Ext.keep hE6 hr1;have hv1:=Ext.keep hE6 hr2;have hvf:∀ o,w6.frozen? ⟨w.heap.size+1,o,none⟩=false:=fun o=>(Below.frozen (p:=⟨w.heap.size+1,o,none⟩) hE6 hwl).trans (hrf o);have hwl6:w.heap.size+1 < w6.heap.size:=World.block_lt_of_cell? w6 _ hv0;have hEw6:Ext w w6:=Ext.trans hEwr hE6;have hszw:=hEwr.size;clear hO6;go_wp2;refine bodyPost_ret (v:=.tuple #[.agg #[.int .i64 (rp (appP q gs)).c,.slice A6 n6 c6],.bool (appP q gs).isSome]) (by simp [results,Tryz.results101,go_sem,hv0,hv1,hvf,hwl6]) rfl ?_;rw [HR.out];refine ⟨A6,n6,c6,rfl,?_,extX⟩;have h3:OwI w6 w.heap.size A6 n6 c6 (rp (appP q gs)).cf:=HO6.out.lower hszw
    (repeat' (first | (with_reducible exact h3) | (with_reducible refine OwI.setFar ?_ _ (fun g o s e=>?_))))
    all_goals (have h4:=HB6.out g o s e;show g≠w.heap.size+1;omega)
theorem c_formAt {ar:List Int} {ps:List Pl} {u:Tm} (hs:SigP ar) (hu:u.Ok ar) (hv:∀ y∈u.flat,-24≤y) (h0s:PsAt ar ps 0) (hall:∀ p∈ps,(0≤p.c∧p.c≤9)∧∀ x∈p.cf,0≤x∧x≤9)
 (hm:∀ (v0 v1 v2:Value) (t rest:List Int) (p:Nat) (w:World),RdSig w v0 ar→RdPs w v1 ps→RdI w v2 t→t.drop p=u.flat++rest→Calls Tryz.prog 101 #[v0,v1,.int .i64 0,v2,.int .i64 (p:Int)] w (NewF w (form ps u))):FormAtI ar ps u:=by
 intro v0 v1 v2 t rest P p w hP h0 h1 h2 hd;subst hP;obtain ⟨A,n,c,rfl,ha⟩:=h0;obtain ⟨B,m,d,rfl,hb⟩:=h1;obtain ⟨D,l,e,rfl,hdd⟩:=h2;have HA:=Zh ha;have HB:=Zh hb;have HD:=Zh hdd;have HM:=Zh hm;have HDR:=Zh hd;clear ha hb hdd hm hd;go_enter Tryz.func73,Tryz.ntmps73;go_wp2_with fail
 (with_reducible refine (HM.out _ _ _ t rest p _ (RdSig.mk (RI.ext HA.out extX)) (RdPs.mk (RP.ext HB.out extX)) (RdI.mk (RI.ext HD.out extX)) HDR.out).mono ?_);rintro e2 w2 ⟨A6,n6,c6,rfl,hO6,hE6⟩;have HO6:=Zh hO6;have HB6:=Zh hO6.bd;have hq0:w2.cell? ⟨w.heap.size+1,0,none⟩=some (.int .i64 0):=Ext.keep hE6 (by simp [go_sem]);have hq1:w2.cell? ⟨w.heap.size+1,1,none⟩=some (.slice none 0 0):=Ext.keep hE6 (by simp [go_sem]);have hqf:∀ o,w2.frozen? ⟨w.heap.size+1,o,none⟩=false:=fun o=>(Below.frozen (p:=⟨w.heap.size+1,o,none⟩) hE6 (by simp [go_sem])).trans (by simp [go_sem]);have hEw:Ext w w2:=Ext.trans extX hE6;clear hO6 hE6;go_wp2;refine bodyPost_ret (v:=.tuple #[.agg #[.int .i64 (rp (form ps u)).c,.slice A6 n6 c6],.bool (form ps u).isSome]) (by simp [results,Tryz.results73,go_sem,hq0,hq1,hqf]) rfl ?_;refine ⟨A6,n6,c6,rfl,?_,extX⟩;have h3:OwI w2 w.heap.size A6 n6 c6 (rp (form ps u)).cf:=HO6.out.lower (by simp [go_sem];try omega)
 (repeat' (first | (with_reducible exact h3) | (with_reducible refine OwI.setFar ?_ _ (fun g o s e=>?_))))
 all_goals (have h4:=HB6.out g o s e;simp [go_sem] at h4;show g≠w.heap.size+1;omega)
theorem c_formAtN {ar:List Int} {ps:List Pl} (hs:SigP ar) (h0s:PsAt ar ps 0) (hall:∀ p∈ps,(0≤p.c∧p.c≤9)∧∀ x∈p.cf,0≤x∧x≤9):∀ (N:Nat) (u:Tm),u.flat.length≤N→u.Ok ar→(∀ y∈u.flat,-24≤y)→FormAtI ar ps u
 | 0,u,h,_,_=>by have:=flat_pos u;omega
 | N+1,.node x us,h,hu,hv=>c_formAt hs hu hv h0s hall fun v0 v1 v2 t rest p w h0 h1 h2 hd=>by
  rw [← formM_zero];exact c_markedForm (h:=0) h0 h1 h2 hd hs hu hv h0s h0s Zo hall fun a ha=>
   c_formAtN hs h0s hall N a (by have:=mem_flatL_len ha;rw [flat_node,List.length_cons] at h;omega) (OkL_iff.1 (Ok_node.1 hu).2 a ha) (fun y hy=>hv y (by rw [flat_node];exact List.mem_cons_of_mem _ (mem_flatL hy ha)))

