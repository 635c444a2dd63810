/- -/
import Derived.Test.YtiblbnkpjmmjaaaGreatQ43
set_option maxRecDepth 100000
set_option maxHeartbeats 16000000
set_option linter.all false
namespace Go.Proofs.YtiblbnkpjmmjaaaGreat
theorem x0q44 {p:Prop} (h:p:=by rw [hw1];simp [go_sem]):p:=h
open Go.RowKit
theorem flatL_mem_le {a:Tm}:∀ {us:List Tm},a∈us→a.flat.length≤(flatL us).length
 | b :: us,h=>by
  rw [flatL_cons,List.length_append];rcases List.mem_cons.1 h with rfl | h
  .omega
  .have:=flatL_mem_le h;omega
theorem flat_mem_lt {a:Tm} {x:Int} {us:List Tm} (h:a∈us):a.flat.length < (Tm.node x us).flat.length:=by
 have:=flatL_mem_le h;rw [flat_node,List.length_cons];omega
theorem c_l15Sum' {v0 v1 v2:Value} {ar:List Int} {ps:List Pl} {q:Pl} {us:List Tm} {A:Option Addr} {n c:Nat} {w:World} {oo:Option Pl} (ho:oo=(formL ps us).bind fun fs=>appP q fs) (h0:RdSig w v0 ar) (h1:RdPs w v1 ps) (h2:RdPl w v2 q) (h3:RS w A n (us.map Tm.flat)) (hn:n=us.length)
 (hq:(0≤q.c∧q.c≤9)∧∀ y∈q.cf,0≤y∧y≤9) (hql:q.cf.length=us.length) (hu3:us.length≤3) (hfm:∀ a∈us,∀ f,form ps a=some f→Fm f) (ih:∀ a∈us,FormV ar ps a (form ps a)) :
 Calls Tryz.prog 108 #[v0,v1,v2,.slice A n c] w (NewF w oo):=by
 rw [ho];exact c_l15Sum h0 h1 h2 h3 hn hq hql hu3 hfm ih
theorem z14q44 {p:Prop} (h:p:=by (intro w' hE';(try dsimp only at hE');have y0:=hE'.1;have y1:=Ext.keep hE'.2 hcy;have y2:=Ext.keep hE'.2 hd1;have y3:=Ext.keep hE'.2 hd2;go_simp;try with_reducible rfl)):p:=h
theorem c_l15FormN {ar:List Int} {ps:List Pl} (hs:SigP ar) (h0s:PsAt ar ps 0) (hall:∀ p∈ps,(0≤p.c∧p.c≤9)∧∀ x∈p.cf,0≤x∧x≤9) :
 ∀ (N:Nat) (u:Tm),u.flat.length≤N→u.Ok ar→(∀ y∈u.flat,-24≤y)→FormV ar ps u (form ps u)
 | 0,u,hN,_,_=>absurd (flat_pos u) Zo
 | N+1,.node x us,hN,hu,hv=>by
  intro v0 v1 v2 w h0 h1 h2;have HIH:=Zh (c_l15FormN hs h0s hall N);obtain ⟨A,n,c,rfl,ha⟩:=h0;obtain ⟨B,m,d,rfl,hb⟩:=h1;obtain ⟨D,l,e,rfl,hcap,hdd⟩:=h2;have hll:=hdd.len;have hpos:=flat_pos (Tm.node x us);have hxp:(Tm.node x us).flat[0]?=some x:=by rw [flat_node];rfl
  obtain ⟨bt,ot,y,rfl,hy,hcy⟩:=RI.at_ hdd (show 0 < l by omega);rw [hxp] at hy;cases hy;rw [Nat.add_zero] at hcy;have hbt:bt < w.heap.size:=World.block_lt_of_cell? w _ hcy;have hl1:0 < l:=by omega
  have HA:=Zh ha;have HB:=Zh hb;have HD:=Zh hdd;have HCAP:=Zh hcap;have HS:=Zh hs;have HU:=Zh hu;by_cases hx:x < 0
  .have hx24 : -24≤x:=hv x (by rw [flat_node];exact List.mem_cons_self);have HR:=Zh (show form ps (.node x us)=some (varPl x) by rw [form_node,if_pos hx]);clear ha hb hdd hs hu hall h0s hv hxp hN HIH hcap;obtain ⟨k,rfl⟩:∃ k:Nat,x = -((k:Int)+1):=⟨(-x - 1).toNat,Zo⟩;obtain ⟨i0,hi0,hz0,hz1,hz2⟩:=info_parts int64_info;have hneg:IntKind.i64.wrap (-(-((k:Int)+1)))=(k:Int)+1:=by rw [Int.neg_neg];exact IntWalk.i64_in _ Zo
   go_enter Tryz.func87,Tryz.ntmps87;go_wp2_with (at_make;refine wpList_make_full _ rfl _ _ 27 rfl (w.heap.size+1+1) 2 i0 _ 1 Tryz.underlying27 hi0 hz0 hz1 _ _ _ _ (k+1) rfl rfl rfl rfl (by rw [hz2];omega) (by simp only [maxLen];omega) (by go_size) ?_)
   intro w1 hown0 hg;rw [madeInts] at hown0;have hown:=OwI.made hown0 Zo;have hE:Ext ((w.alloc (.cells #[.slice A n c] 29)).alloc (.cells #[.int .i64 0,.slice none 0 0] 82)) w1:=Ext.grown (Ext.refl _) hg (fun k hk=>by cases hk);have hEw:Ext w w1:=Ext.trans extX hE;have hb:=(hown.bd _ _ _ rfl).2;obtain ⟨k0,k1,kf⟩:=box_ext hE (q:=w.heap.size+1) (u:=.int .i64 0) (v:=.slice none 0 0) (by simp [go_sem]) (by simp [go_sem]) (by intro j;simp [go_sem]);have hcy1:=Ext.keep hEw hcy;have HO:=Zh hown;have HX:=Zh (show (List.replicate (k+1) (0:Int)).set k 1=(varPl (-((k:Int)+1))).cf from by
    rw [List.replicate_succ',List.set_append_right _ _ (by simp)];simp only [List.length_replicate,Nat.sub_self,List.set_cons_zero,varPl];rw [show (-(-((k:Int)+1))).toNat - 1=k by omega])
   clear hown hown0 hg;go_wp2_with fail;obtain ⟨w2,hw2⟩:∃ w2,w2=w1.alloc (.cells #[.int .i64 0,.slice (some ⟨w.heap.size+1+1,0,none⟩) (k+1) (k+1)] 82):=⟨_,rfl⟩;have hE2:Ext w1 w2:=by rw [hw2];exact (Ext.refl _).alloc _
   have hg0:w2.cell? ⟨w1.heap.size,0,none⟩=some (.int .i64 0):=by rw [hw2];simp [go_sem]
   have hg1:w2.cell? ⟨w1.heap.size,1,none⟩=some (.slice (some ⟨w.heap.size+1+1,0,none⟩) (k+1) (k+1)):=by rw [hw2];simp [go_sem]
   rw [← hw2];clear hw2;have hO2:=HO.out.ext hE2;obtain ⟨z,hz,hcz,hfz⟩:=OwI.at_ hO2 (k:=k) Zo;obtain ⟨m0,m1,mf⟩:=box_ext hE2 k0 k1 kf;have hcy2:=Ext.keep hE2 hcy1;have HO2:=Zh hO2;have hEw2:=Ext.trans hEw hE2;obtain ⟨k2,hk2⟩:∃ k2,k2=k+1:=⟨_,rfl⟩;rw [← hk2] at hg1;have hkk:(k:Int) < (k2:Int):=by omega
   have hidx:IntKind.i64.wrap (-1 - -((k:Int)+1))=(k:Int):=by rw [show -1 - -((k:Int)+1)=(k:Int) by omega];exact IntWalk.i64_in _ Zo
   have hidx2 : -1+((k:Int)+1)=(k:Int):=by omega
   have HK2:=Zh hk2;clear hk2 hcy hcy1 k0 k1 kf hO2 hz hneg;go_still_tail 6,Zk
   change wpList _ _ _ _ _ w2.drew
   go_wp2_with fail;refine bodyPost_ret (v:=.tuple #[.agg #[.int .i64 (varPl (-((k:Int)+1))).c,.slice (some ⟨w.heap.size+1+1,0,none⟩) k2 k2],.bool true]) (by simp [results,Tryz.results87,go_sem,m0,m1,mf,varPl]) rfl ?_;rw [HR.out];refine ⟨some ⟨w.heap.size+1+1,0,none⟩,k2,k2,rfl,?_,?_⟩
   .have h1:=HO2.out.set k 1;rw [HX.out] at h1;rw [HK2.out];have h2:OwI _ w.heap.size _ _ _ _:=h1.lower (B':=w.heap.size) Zo;refine OwI.ext (OwI.setFar (OwI.setFar h2 _ (fun g o s e=>?_)) _ (fun g o s e=>?_)) (Ext.drew (Ext.refl _))<;>(cases e;show w.heap.size+1+1≠w.heap.size+1;omega)
   .exact extX
  .obtain ⟨x0,rfl⟩:=Int.eq_ofNat_of_zero_le (show 0≤x by omega);obtain ⟨hok,hol⟩:=Ok_node.1 hu;obtain ⟨q,hq,hql,hqc,hqcf⟩:=h0s x0 us.length hok;rw [Nat.add_zero] at hq;have hal:us.length≤3:=arI_le hs hok;have hOL:=OkL_iff.1 hol;have HFM:=Zh (show ∀ a∈us,∀ f,form ps a=some f→Fm f from fun a hm f hf=>
    form_fm (ar:=ar) hall (fun y b hb=>arI_le hs hb) a (hOL a hm) (fun y hy=>hv y (by rw [flat_node];exact List.mem_cons_of_mem _ (mem_flatL hy hm))) f hf)
   have HIA:=Zh (show ∀ a∈us,FormV ar ps a (form ps a) from fun a hm=>HIH.out a (by
    have:=flat_mem_lt (x:=(x0:Int)) hm;omega) (hOL a hm) (fun y hy=>hv y (by rw [flat_node];exact List.mem_cons_of_mem _ (mem_flatL hy hm))))
   have HR:=Zh (show form ps (.node (x0:Int) us)=(formL ps us).bind fun fs=>appP q fs by
    rw [form_node,if_neg hx,Int.toNat_natCast,List.getD_eq_getElem?_getD,hq];rfl)
   have HQB:=Zh (And.intro hqc hqcf);have HQL:=Zh hql;have hml:x0 < m:=by have:=(List.getElem?_eq_some_iff.1 hq).1;rw [hb.len] at this;exact this
   obtain ⟨b4,o4,q',A4,m4,c4,rfl,hq',hd1,hd2,hri4⟩:=RP.at_ hb hml;rw [hq] at hq';cases hq';have HR4:=Zh hri4;obtain ⟨oo,hoo⟩:∃ oo,oo=(formL ps us).bind fun fs=>appP q fs:=⟨_,rfl⟩;have HOO:=Zh hoo;have hmi:(x0:Int) < (m:Int):=by omega
   have hx0i:(0:Int)≤(x0:Int):=by omega
   clear ha hb hdd hs hu hall h0s hv hxp hN HIH hcap hok hol hq hql hqc hqcf hOL hri4 hoo;go_enter Tryz.func87,Tryz.ntmps87;go_wp2_with fail;obtain ⟨w1,hw1⟩:∃ w1,w1=(w.alloc (.cells #[.slice A n c] 29)).alloc (.cells #[.int .i64 0,.slice none 0 0] 82):=⟨_,rfl⟩;have hs0:w1.cell? ⟨w.heap.size,0,none⟩=some (.slice A n c):=x0q44;have hs2:w1.cell? ⟨w.heap.size+1,0,none⟩=some (.int .i64 0):=x0q44;have hs3:w1.cell? ⟨w.heap.size+1,1,none⟩=some (.slice none 0 0):=x0q44;have hs4:∀ o,w1.frozen? ⟨w.heap.size+1,o,none⟩=false:=by intro o;rw [hw1];simp [go_sem]
   have hE1:Ext w w1:=by rw [hw1];exact extX
   have hsz:w.heap.size+1 < w1.heap.size:=x0q44;rw [← hw1];clear hw1;refine wp_only (R:=fun (a0:Act) (a8:Act) (w9:World)=>∃ (A5:Option Addr) (c5:Nat) (A6:Option Addr) (n6:Nat) (c6:Nat),a8=(((((((((((((((a0.put (some 27) (.agg #[.slice A n c])).put (some 28) (.slice (some ⟨b4,o4,none⟩) m d)).put (some 29) (.slice (some ⟨b4,o4,none⟩) m d)).put (some 30) (.slice (some ⟨bt,ot,none⟩) l e)).put (some 31) (.pointer (some ⟨bt,ot,none⟩))).put (some 32) (.int .i64 (x0:Int))).put (some 33) (.pointer (some ⟨b4,o4+x0 * 2,none⟩))).put (some 34) (.agg #[.int .i64 q.c,.slice A4 m4 c4])).put (some 35) (.agg #[.slice A n c])).put (some 36) (.slice (some ⟨bt,ot,none⟩) l e)).put (some 37) (.slice A5 us.length c5)).put (some 38) (.tuple #[.agg #[.int .i64 (rp oo).c,.slice A6 n6 c6],.bool oo.isSome])).put (some 39) (.agg #[.int .i64 (rp oo).c,.slice A6 n6 c6])).put (some 40) (.bool oo.isSome)).put (some 7) (.bool oo.isSome))∧n6=(rp oo).cf.length∧PG w w9 (w.heap.size+1) (rp oo).c A6 c6 (rp oo).cf) ?_ (fun a8 w5 hR=>?_)
   .refine wp_region_held_drew (S:=(fun w'=>w'.cell? ⟨w.heap.size,0,none⟩=some (.slice A n c)∧Ext w w')) Zk (⟨hs0,hE1.drew⟩) (fun hH=>?_);refine Z3 0 (.agg #[.slice A n c]) 27 hH ?_ ?_
    .exact z14q44
    refine Z3 1 (.slice (some ⟨b4,o4,none⟩) m d) 28 hH ?_ ?_
    .exact z14q44
    refine Z3 2 (.slice (some ⟨b4,o4,none⟩) m d) 29 hH ?_ ?_
    .exact z14q44
    refine Z3 3 (.slice (some ⟨bt,ot,none⟩) l e) 30 hH ?_ ?_
    .exact z14q44
    refine Z3 4 (.pointer (some ⟨bt,ot,none⟩)) 31 hH ?_ ?_
    .exact z14q44
    refine Z3 5 (.int .i64 (x0:Int)) 32 hH ?_ ?_
    .exact z14q44
    refine Z3 6 (.pointer (some ⟨b4,o4+x0 * 2,none⟩)) 33 hH ?_ ?_
    .exact z14q44
    refine Z3 7 (.agg #[.int .i64 q.c,.slice A4 m4 c4]) 34 hH ?_ ?_
    .exact z14q44
    refine Z3 8 (.agg #[.slice A n c]) 35 hH ?_ ?_
    .exact z14q44
    refine Z3 9 (.slice (some ⟨bt,ot,none⟩) l e) 36 hH ?_ ?_
    .exact z14q44
    refine Z4 10 fun K hK=>?_;go_wp2_with fail
    (with_reducible refine (c_l13Parts (x:=(x0:Int)) (us:=us) (RdSig.mk (RI.ext HA.out hH.2)) (RdIc.mk HCAP.out (RI.ext HD.out hH.2)) HS.out HU.out).mono ?_);rintro e w9 ⟨A5,n5,c5,rfl,rfl,hS5,hE9⟩;refine hK.out _ _ (⟨Ext.keep hE9 hH.1,Ext.trans hH.2 hE9⟩) (fun hH9=>?_);clear hK;have hH0:=hH;clear hH;have hH:=hH9;clear hH9;try simp only [Act.put,Zl]
    refine Z4 11 fun K hK=>?_;go_wp2_with fail
    (with_reducible refine (c_l15Sum' (q:=q) HOO.out (RdSig.mk (RI.ext HA.out hH.2)) (RdPs.mk (RP.ext HB.out hH.2)) (RdPl.mk (RI.ext HR4.out hH.2)) hS5 rfl HQB.out HQL.out hal HFM.out HIA.out).mono ?_);rintro e w9 ⟨A6,n6,c6,rfl,hO6,hE8⟩;refine hK.out _ _ (⟨Ext.keep hE8 hH.1,Ext.trans hH.2 hE8⟩) (fun hH9=>?_);clear hK;have hH0:=hH;clear hH;have hH:=hH9;clear hH9;try simp only [Act.put,Zl]
    refine Z3 12 (.agg #[.int .i64 (rp oo).c,.slice A6 n6 c6]) 39 hH ?_ ?_
    .exact z14q44
    refine Z3 13 (.bool oo.isSome) 40 hH ?_ ?_
    .exact z14q44
    refine Z4 14 fun K hK=>?_;obtain ⟨k0,k1,kf⟩:=box_ext (Ext.trans hE9 hE8) (q:=w.heap.size+1) (u:=.int .i64 0) (v:=.slice none 0 0) hs2 hs3 hs4;go_wp2_with fail;refine hK.out _ _ (⟨by rw [World.cell?_setCell_other _ _ _ _ (by simp),World.cell?_setCell_other _ _ _ _ (by simp)];exact hH.1,(hH.2.set (Nat.le_succ _) _).set (Nat.le_succ _) _⟩) (fun hH9=>?_);clear hK;have hH0:=hH;clear hH;have hH:=hH9;clear hH9;try simp only [Act.put,Zl]
    refine Z3 15 (.bool oo.isSome) 7 hH ?_ ?_
    .exact z14q44
    refine wpAnyH_done Zk ?_ _;refine ⟨A5,c5,A6,n6,c6,Zr,hO6.len.symm,PG.put hO6.len.symm k0 k1 kf (hO6.lower (Nat.le_trans hE1.size hE9.size)) (fun b o s e=>?_) (Nat.le_succ _) hH0.2⟩;have h1:=(hO6.bd b o s e).1;have h2:=hE9.size;have h3:w1.heap.size≤w1.drew.heap.size:=Nat.le_refl _;omega
   obtain ⟨A5,c5,A6,n6,c6,ha,hn6,P6⟩:=hR;simp only [Act.put,Zl] at ha;subst ha;have k0:=P6.c0;have k1:=P6.c1;have kf:=P6.fr;have hE5:=P6.ex;have HO:=Zh P6.oA;clear P6 hn6;go_wp2_with fail;refine bodyPost_ret (v:=.tuple #[.agg #[.int .i64 (rp oo).c,.slice A6 (rp oo).cf.length c6],.bool oo.isSome]) (by simp [results,Tryz.results87,go_sem,k0,k1,kf]) rfl ?_;rw [HR.out,← HOO.out];exact ⟨A6,_,c6,rfl,HO.out,hE5⟩
noncomputable def formO (ar:List Int) (ps:List Pl) (t:List Int):Option Pl:=if (polysOk ar ps && termOk ar t)=true then form ps (tmOf ar t) else none
theorem formO_f {ar:List Int} {ps:List Pl} {t:List Int} (h:(polysOk ar ps && termOk ar t)=false):formO ar ps t=none:=by unfold formO;rw [h];rfl
theorem formO_t {ar:List Int} {ps:List Pl} {t:List Int} (h:(polysOk ar ps && termOk ar t)=true):formO ar ps t=form ps (tmOf ar t):=by unfold formO;rw [if_pos h]
theorem formO_fm {ar:List Int} {ps:List Pl} {t:List Int} {f:Pl} (h:formO ar ps t=some f):Fm f:=by
 cases hk:(polysOk ar ps && termOk ar t) with
 | false=>rw [formO_f hk] at h;cases h
 | true=>
  rw [formO_t hk] at h;rw [Bool.and_eq_true] at hk;have hp:=polysOk_iff.1 hk.1;have ht:=termOk_iff.1 hk.2;obtain ⟨k1,k2⟩:=tmOf_ok ht;exact form_fm (ar:=ar) hp.all (fun y b hb=>arI_le hp.1 hb) _ k1 (fun y hy=>ht.2.2.1 y (by rw [← k2];exact hy)) f h
theorem c_l15Form0 {v0 v1 v2:Value} {ar t:List Int} {ps:List Pl} {w:World} (h0:RdSig w v0 ar) (h1:RdPs w v1 ps) (h2:RdIc w v2 t) (hp:PolysP ar ps) (ht:TermP ar t) :
 Calls Tryz.prog 87 #[v0,v1,v2] w (NewF w (form ps (tmOf ar t))):=by
 obtain ⟨k1,k2⟩:=tmOf_ok ht;exact c_l15FormN hp.1 hp.at0 hp.all _ (tmOf ar t) (Nat.le_refl _) k1 (fun y hy=>ht.2.2.1 y (by rw [← k2];exact hy)) v0 v1 v2 w h0 h1 (by rw [k2];exact h2)
theorem z15q44 {p:Prop} (h:p:=by (first | (first | (with_reducible exact RdI.mk (RI.ext (Hid.out (by with_reducible assumption)) extX)) | (with_reducible exact RdI.ext (by with_reducible assumption) extX)) | (with_reducible exact RdPs.mk (RP.ext (Hid.out (by with_reducible assumption)) extX)) | (with_reducible exact RdPs.ext (by with_reducible assumption) extX) | (with_reducible exact RdPl.mk (by (first | (with_reducible exact RI.ext (Hid.out (by with_reducible assumption)) extX)))) | (with_reducible exact RdPl.ext (by with_reducible assumption) extX) | (with_reducible exact RdSig.mk (by (first | (with_reducible exact RI.ext (Hid.out (by with_reducible assumption)) extX)))) | (with_reducible exact RdSig.ext (by with_reducible assumption) extX))):p:=h
theorem z16q44 {p:Prop} (h:p:=by (first | (with_reducible exact RI.ext (Hid.out (by with_reducible assumption)) extX))):p:=h
theorem c_sFormOf {v0 v1 v2:Value} {ar t:List Int} {ps:List Pl} {w:World} (h0:RdSig w v0 ar) (h1:RdPs w v1 ps) (h2:RdIc w v2 t) :
 Calls Tryz.prog 61 #[v0,v1,v2] w (NewF w (formO ar ps t)):=by
 obtain ⟨A,n,c,rfl,ha⟩:=h0;obtain ⟨B,m,d,rfl,hb⟩:=h1;obtain ⟨D,q,l,rfl,hcap,hd⟩:=h2;have HA:=Zh ha;have HB:=Zh hb;have HD:=Zh hd;have HCP:=Zh hcap;clear hcap;clear ha hb hd;cases hk:(polysOk ar ps && termOk ar t) with
 | false=>
  have HR:=Zh (formO_f hk);cases hw:polysOk ar ps with
  | false=>
   clear hk;go_enter Tryz.func61,Tryz.ntmps61;go_wp2_with (go_at_call 60;(with_reducible refine (c_sPolysOk (ar:=ar) (ps:=ps) z15q44 z15q44).mono ?_);rintro e w1 ⟨rfl,hE1⟩;have hz1:=Zs hE1;obtain ⟨hc1,hf1⟩:=bcell hE1;(try have hq1_0:w.heap.size < w1.heap.size:=Zo);(try have hq1_1:w.heap.size+1 < w1.heap.size:=Zo))
   refine bodyPost_ret (v:=.tuple #[.agg #[.int .i64 0,.slice none 0 0],.bool false]) (by simp [results,Tryz.results61,go_sem, *]) rfl ?_;rw [HR.out];exact ⟨none,0,0,rfl,⟨Zo,World.ownsRow_nil _ _ _ _⟩,extX⟩
  | true=>
   have ht:termOk ar t=false:=by rw [hw] at hk;simpa using hk
   clear hk;go_enter Tryz.func61,Tryz.ntmps61
   go_wp2_with (first
    | (go_at_call 60;(with_reducible refine (c_sPolysOk (ar:=ar) (ps:=ps) z15q44 z15q44).mono ?_);rintro e w1 ⟨rfl,hE1⟩;have hz1:=Zs hE1;obtain ⟨hc1,hf1⟩:=bcell hE1;(try have hq1_0:w.heap.size < w1.heap.size:=Zo);(try have hq1_1:w.heap.size+1 < w1.heap.size:=Zo))
    | (go_at_call 64;(with_reducible refine (c_sTermOk (ar:=ar) (t:=t) z15q44 z15q44).mono ?_);rintro e w2 ⟨rfl,hE2⟩;have hz2:=Zs hE2;obtain ⟨hc2,hf2⟩:=bcell hE2;(try have hq2_0:w.heap.size < w2.heap.size:=Zo);(try have hq2_1:w.heap.size+1 < w2.heap.size:=Zo)))
   refine bodyPost_ret (v:=.tuple #[.agg #[.int .i64 0,.slice none 0 0],.bool false]) (by simp [results,Tryz.results61,go_sem, *]) rfl ?_;rw [HR.out];exact ⟨none,0,0,rfl,⟨Zo,World.ownsRow_nil _ _ _ _⟩,extX⟩
 | true=>
  have HR:=Zh (formO_t hk);rw [Bool.and_eq_true] at hk;obtain ⟨hw,ht⟩:=hk;have HP:=Zh (polysOk_iff.1 hw);have HT:=Zh (termOk_iff.1 ht);obtain ⟨of,hof⟩:∃ of,of=form ps (tmOf ar t):=⟨_,rfl⟩;have HOF:=Zh hof;clear hof;go_enter Tryz.func61,Tryz.ntmps61
  go_wp2_with (first
   | (go_at_call 60;(with_reducible refine (c_sPolysOk (ar:=ar) (ps:=ps) z15q44 z15q44).mono ?_);rintro e w1 ⟨rfl,hE1⟩;have hz1:=Zs hE1;obtain ⟨hc1,hf1⟩:=bcell hE1;(try have hq1_0:w.heap.size < w1.heap.size:=Zo);(try have hq1_1:w.heap.size+1 < w1.heap.size:=Zo))
   | (go_at_call 64;(with_reducible refine (c_sTermOk (ar:=ar) (t:=t) z15q44 z15q44).mono ?_);rintro e w2 ⟨rfl,hE2⟩;have hz2:=Zs hE2;obtain ⟨hc2,hf2⟩:=bcell hE2;(try have hq2_0:w.heap.size < w2.heap.size:=Zo);(try have hq2_1:w.heap.size+1 < w2.heap.size:=Zo))
   | fail)
  (with_reducible refine (c_l15Form0 (t:=t) z15q44 z15q44 (RdIc.mk HCP.out z16q44) HP.out HT.out).mono ?_);rw [← HOF.out];rintro e3 w3 ⟨A3,n3,c3,rfl,hO3,hE3⟩;have HO3:=Zh hO3;have hbd:=hO3.bd;have hz3:=Zs hE3;obtain ⟨hc3,hf3⟩:=bcell hE3;(try have hq3_0:w.heap.size < w3.heap.size:=Zo);clear hO3;go_wp2_with fail;refine bodyPost_ret (v:=.tuple #[.agg #[.int .i64 (rp of).c,.slice A3 n3 c3],.bool of.isSome]) (by simp [results,Tryz.results61,go_sem, *]) rfl ?_;rw [HR.out,← HOF.out];refine ⟨A3,n3,c3,rfl,?_,extX⟩;have h3:=HO3.out.lower (B':=w.heap.size) (by go_size);refine OwI.setFar (OwI.setFar h3 _ (fun g o s e=>?_)) _ (fun g o s e=>?_)
  .have:=(hbd g o s e).1;show g≠w.heap.size+1;omega
  .have:=(hbd g o s e).1;show g≠w.heap.size+1;omega
theorem cmpLess_O (ar:List Int) (ps:List Pl) (s t:List Int):(polyArgs ar ps s t && cmpLess (form ps (tmOf ar s)) (form ps (tmOf ar t)))=cmpLess (formO ar ps s) (formO ar ps t):=by
 unfold polyArgs formO;cases polysOk ar ps<;>cases termOk ar s<;>cases termOk ar t<;>simp [cmpLess]
theorem Fm.nn {f:Pl} (h:Fm f):∀ y∈f.cf,0≤y:=fun y hy=>(h.1.2 y hy).1
theorem c_sPolyLess {v0 v1 v2 v3:Value} {ar:List Int} {ps:List Pl} {s t:List Int} {w:World} (h0:RdSig w v0 ar) (h1:RdPs w v1 ps) (h2:RdIc w v2 s) (h3:RdIc w v3 t) :
 Calls Tryz.prog 40 #[v0,v1,v2,v3] w fun e w'=>e=.returned (.bool (polyArgs ar ps s t && cmpLess (form ps (tmOf ar s)) (form ps (tmOf ar t))))∧Ext w w':=by
 rw [cmpLess_O];obtain ⟨A,n,c,rfl,ha⟩:=h0;obtain ⟨B,m,d,rfl,hb⟩:=h1;obtain ⟨D,q,l,rfl,hcap,hd⟩:=h2;obtain ⟨F,q',l',rfl,hcap',hf⟩:=h3;have HA:=Zh ha;have HB:=Zh hb;have HD:=Zh hd;have HF:=Zh hf;have HCP:=Zh hcap;have HCP':=Zh hcap';clear ha hb hd hf hcap hcap';obtain ⟨oa,hoa⟩:∃ oa,oa=formO ar ps s:=⟨_,rfl⟩;obtain ⟨ob,hob⟩:∃ ob,ob=formO ar ps t:=⟨_,rfl⟩;rw [← hoa,← hob];have HOA:=Zh hoa;have HOB:=Zh hob;clear hoa hob;go_enter Tryz.func40,Tryz.ntmps40;go_wp2_with fail
 (with_reducible refine (c_sFormOf (t:=s) (RdSig.mk (RI.ext HA.out extX)) (RdPs.mk (RP.ext HB.out extX)) (RdIc.mk HCP.out (RI.ext HD.out extX))).mono ?_);rw [← HOA.out];rintro e2 w2 ⟨A2,n2,c2,rfl,hO2,hE2⟩;have HL2:=Zh hO2.ri;have hs0:w2.cell? ⟨w.heap.size,0,none⟩=some (.slice A n c):=Ext.keep hE2 (by simp [go_sem]);have hEw2:Ext w w2:=Ext.trans extX hE2;have hlt2:w.heap.size < w2.heap.size:=World.block_lt_of_cell? w2 _ hs0;clear hO2 hE2;go_wp2_with fail;obtain ⟨wq,hwq⟩:∃ wq,wq=w2.alloc (.cells #[.int .i64 (rp oa).c,.slice A2 n2 c2] 82):=⟨_,rfl⟩;have hg0:wq.cell? ⟨w2.heap.size,0,none⟩=some (.int .i64 (rp oa).c):=by rw [hwq];simp [go_sem]
 have hg1:wq.cell? ⟨w2.heap.size,1,none⟩=some (.slice A2 n2 c2):=by rw [hwq];simp [go_sem]
 have hEq:Ext w2 wq:=by rw [hwq];exact (Ext.refl _).alloc _
 rw [← hwq];clear hwq;have hEwq:Ext w wq:=Ext.trans hEw2 hEq
 (with_reducible refine (c_sFormOf (t:=t) (RdSig.mk (RI.ext HA.out hEwq)) (RdPs.mk (RP.ext HB.out hEwq)) (RdIc.mk HCP'.out (RI.ext HF.out hEwq))).mono ?_);rw [← HOB.out];rintro e3 w3 ⟨A3,n3,c3,rfl,hO3,hE3⟩;have HL3:=Zh hO3.ri;have hk0:=Ext.keep hE3 hg0;have hk1:=Ext.keep hE3 hg1;have hkl:w2.heap.size < w3.heap.size:=World.block_lt_of_cell? w3 _ hk0;have hE23:Ext w2 w3:=Ext.trans hEq hE3;have hEw3:Ext w w3:=Ext.trans hEwq hE3;clear hO3 hg0 hg1;cases oa with
 | none=>
  go_wp2;go_ret;exact ⟨rfl,extX⟩
 | some a=>
  cases ob with
  | none=>
   go_wp2;go_ret;exact ⟨rfl,extX⟩
  | some b=>
   have HNN:=Zh (Fm.nn (formO_fm HOB.out.symm));have e1:(rp (some a)).c=a.c:=rfl;have e2:(rp (some b)).c=b.c:=rfl;rw [e1] at hk0;by_cases hlt:a.c < b.c
   .have hd0:decide (a.c < b.c)=true:=by simpa using hlt
    go_wp2_with (go_at_call 62;(with_reducible refine (c_l15Most (a:=a) (b:=b) (RdPl.mk (RI.ext HL2.out extX)) (RdPl.mk (RI.ext HL3.out extX)) HNN.out).mono ?_);rintro e4 w4 ⟨rfl,hE4⟩)
    go_ret;exact ⟨ret_bool (by simp [cmpLess,hlt]),extX⟩
   .have hd0:decide (a.c < b.c)=false:=by simpa using hlt
    go_wp2;go_ret;exact ⟨ret_bool (by simp [cmpLess,hlt]),extX⟩
end Go.Proofs.YtiblbnkpjmmjaaaGreat
namespace Go.Proofs.YtiblbnkpjmmjaaaGreat
def StrictP (ps:List Pl):Prop:=∀ p∈ps,∀ x∈p.cf,1≤x
noncomputable def strictIn (ar:List Int) (ps:List Pl):Bool:=@decide (PolysP ar ps∧StrictP ps) (Classical.propDecidable _)
theorem strictIn_t {ar:List Int} {ps:List Pl} (h:polysOk ar ps=true) (h2:StrictP ps):strictIn ar ps=true:=by
 simp only [strictIn,decide_eq_true_eq];exact ⟨polysOk_iff.1 h,h2⟩
theorem strictIn_f {ar:List Int} {ps:List Pl} (h:¬ StrictP ps):strictIn ar ps=false:=by
 simp only [strictIn,decide_eq_false_iff_not];exact fun a=>h a.2
theorem strictIn_no {ar:List Int} {ps:List Pl} (h:polysOk ar ps=false):strictIn ar ps=false:=by
 simp only [strictIn,decide_eq_false_iff_not];exact fun a=>by rw [polysOk_iff.2 a.1] at h;cases h
def anyZ (ps:List Pl):Bool:=ps.any fun p=>decide (0∈p.cf)
theorem anyZ_f {ps:List Pl} {k:Nat} (h:∀ (j:Nat) (p:Pl),j < k→ps[j]?=some p→¬ 0∈p.cf) (hk:ps.length≤k):anyZ ps=false:=by
 simp only [anyZ,List.any_eq_false,decide_eq_true_eq];intro p hp;obtain ⟨j,hj,rfl⟩:=List.mem_iff_getElem.1 hp;exact h j _ Zo (List.getElem?_eq_getElem hj)
theorem strict_bad {ps:List Pl} {k q:Nat} {p:Pl} {x:Int} (h:ps[k]?=some p) (hx:p.cf[q]?=some x) (h0:x < 1):¬ StrictP ps:=
 fun a=>absurd (a p (List.mem_of_getElem? h) x (List.mem_of_getElem? hx)) Zo
theorem strict_all {ps:List Pl} {k:Nat} (h:∀ (j:Nat) (p:Pl),j < k→ps[j]?=some p→∀ x∈p.cf,1≤x) (hk:ps.length≤k):StrictP ps:=by
 intro p hp;obtain ⟨j,hj,rfl⟩:=List.mem_iff_getElem.1 hp;exact h j _ Zo (List.getElem?_eq_getElem hj)
theorem uptoG_succ {α:Type} {xs:List α} {k:Nat} {P:α→Prop} {z:α} (h:∀ (j:Nat) (x:α),j < k→xs[j]?=some x→P x) (hz:xs[k]?=some z) (hp:P z):∀ (j:Nat) (x:α),j < k+1→xs[j]?=some x→P x:=by
 intro j x hj hx;rcases Nat.lt_or_ge j k with h' | h'
 .exact h j x h' hx
 .obtain rfl:j=k:=by omega
  rw [hz] at hx;cases hx;exact hp
theorem uptoG_all {α:Type} {xs:List α} {k:Nat} {P:α→Prop} (h:∀ (j:Nat) (x:α),j < k→xs[j]?=some x→P x) (hk:xs.length≤k):∀ x∈xs,P x:=by
 intro x hx;obtain ⟨j,hj,rfl⟩:=List.mem_iff_getElem.1 hx;exact h j _ Zo (List.getElem?_eq_getElem hj)

