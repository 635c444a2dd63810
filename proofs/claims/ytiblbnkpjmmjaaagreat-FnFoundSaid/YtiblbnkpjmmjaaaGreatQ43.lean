/- -/
import Derived.Test.YtiblbnkpjmmjaaaGreatQ42
set_option maxRecDepth 100000
set_option maxHeartbeats 16000000
set_option linter.all false
namespace Go.Proofs.YtiblbnkpjmmjaaaGreat
theorem x0q43 {p:Prop} (h:p:=by rw [hw1];simp [go_sem]):p:=h
open Go.RowKit
theorem box_ext {w wx:World} {q:Nat} {u v:Value} (hE:Ext w wx) (h0:w.cell? ⟨q,0,none⟩=some u) (h1:w.cell? ⟨q,1,none⟩=some v) (hf:∀ j,w.frozen? ⟨q,j,none⟩=false) :
 wx.cell? ⟨q,0,none⟩=some u∧wx.cell? ⟨q,1,none⟩=some v∧∀ j,wx.frozen? ⟨q,j,none⟩=false:=
 ⟨Ext.keep hE h0,Ext.keep hE h1,fun j=>(Below.frozen (p:=⟨q,j,none⟩) hE (by have:=World.block_lt_of_cell? w _ h0;exact this)).trans (hf j)⟩
theorem PB.put {w1 wr:World} {x y:Int} {A A':Option Addr} {cA n c:Nat} {xs ys:List Int} (h:PB w1 wr x A cA xs) (hn:n=ys.length) (hO:OwI wr (w1.heap.size+1) A' n c ys) :
 PB w1 ((wr.setCell ⟨w1.heap.size,0,none⟩ (.int .i64 y)).setCell ⟨w1.heap.size,1,none⟩ (.slice A' n c)) y A' c ys:=by
 subst hn;refine ⟨?_,?_,fun j=>by rw [World.frozen?_setCell,World.frozen?_setCell];exact h.fr j,?_,(h.ex.set (Nat.le_refl _) _).set (Nat.le_refl _) _⟩
 .rw [World.cell?_setCell_other _ _ _ _ (by simp)];exact World.cell?_setCell_same _ _ _ h.c0
 .exact World.cell?_setCell_same _ _ _ (by rw [World.cell?_setCell_other _ _ _ _ (by simp)];exact h.c1)
 .exact (hO.setFar _ fun g o s e=>by have:=(hO.bd g o s e).1;show g≠w1.heap.size;omega).setFar _ fun g o s e=>by have:=(hO.bd g o s e).1;show g≠w1.heap.size;omega
abbrev FormV (ar:List Int) (ps:List Pl) (u:Tm) (o:Option Pl):Prop:=∀ (v0 v1 v2:Value) (w:World),RdSig w v0 ar→RdPs w v1 ps→RdIc w v2 u.flat →
 Calls Tryz.prog 87 #[v0,v1,v2] w (NewF w o)
theorem mq43 {p:Prop} (h:p:=by simp only [intOf];omega):p:=h
theorem z15q43 {p:Prop} (h:p:=by (intro w' hE';(try dsimp only at hE');have x0:=Ext.keep hE' hr0;have x1:=Ext.keep hE' hc2;go_simp;try with_reducible rfl)):p:=h
theorem z16q43 {p:Prop} (h:p:=by (intro w' hE';(try dsimp only at hE');have x0:=Ext.keep hE' hq0;have x1:=Ext.keep hE' hq1;have x2:=Ext.keep hE' hf0;have x3:=Ext.keep hE' hf1;have x4:=Ext.keep hE' hpc;have x5:=Ext.keep hE' hd7;go_simp;try with_reducible rfl)):p:=h
theorem c_l15Sum {v0 v1 v2:Value} {ar:List Int} {ps:List Pl} {q:Pl} {us:List Tm} {A:Option Addr} {n c:Nat} {w:World} (h0:RdSig w v0 ar) (h1:RdPs w v1 ps) (h2:RdPl w v2 q) (h3:RS w A n (us.map Tm.flat)) (hn:n=us.length)
 (hq:(0≤q.c∧q.c≤9)∧∀ y∈q.cf,0≤y∧y≤9) (hql:q.cf.length=us.length) (hu3:us.length≤3) (hfm:∀ a∈us,∀ f,form ps a=some f→Fm f) (ih:∀ a∈us,FormV ar ps a (form ps a)) :
 Calls Tryz.prog 108 #[v0,v1,v2,.slice A n c] w (NewF w ((formL ps us).bind fun fs=>appP q fs)):=by
 obtain ⟨As,ns,cs,rfl,ha⟩:=h0;obtain ⟨B,m,d,rfl,hb⟩:=h1;obtain ⟨D,l,e,rfl,hd⟩:=h2;subst hn;have hlen:l=us.length:=by rw [← hd.len,hql]
 subst hlen;have HA:=Zh ha;have HB:=Zh hb;have HD:=Zh hd;have HS3:=Zh h3;have HI:=Zh ih;have HQ:=Zh hq;have HFM:=Zh hfm;clear ha hb hd h3 ih hq hfm hql;go_enter Tryz.func108,Tryz.ntmps108;go_wp2_with fail;obtain ⟨w1,hw1⟩:∃ w1,w1=((w.alloc (.cells #[.slice As ns cs] 29)).alloc (.cells #[.int .i64 q.c,.slice D us.length e] 82)).alloc (.cells #[.int .i64 0,.slice none 0 0] 82):=⟨_,rfl⟩;have hs0:w1.cell? ⟨w.heap.size,0,none⟩=some (.slice As ns cs):=x0q43;have hs1:w1.cell? ⟨w.heap.size+1,1,none⟩=some (.slice D us.length e):=x0q43;have hs2:w1.cell? ⟨w.heap.size+1+1,0,none⟩=some (.int .i64 0):=x0q43;have hs3:w1.cell? ⟨w.heap.size+1+1,1,none⟩=some (.slice none 0 0):=x0q43;have hs4:∀ o,w1.frozen? ⟨w.heap.size+1+1,o,none⟩=false:=by intro o;rw [hw1];simp [go_sem]
 have hE1:Ext w w1:=by rw [hw1];exact extX
 rw [← hw1];have hs5:w.heap.size+1+1+1=w1.heap.size:=x0q43;clear hw1;try rw [hs5]
 have hlo:w.heap.size+1+1 < w1.heap.size:=by omega
 clear hs5;go_loopw [11] (fun i wr=>∃ k:Nat,i=.int .i64 k∧k≤us.length∧Hid (∃ fs A cA,FirstF ps us fs k∧¬ Big (sumTo q fs k)∧PB w1 wr (sumTo q fs k).c A cA (sumTo q fs k).cf)) (fun i _=>us.length - (intOf i).toNat)
 case atStart=>exact ⟨0,rfl,Nat.zero_le _,Zh ⟨[],none,0,FirstF.zero _ _,not_big_start HQ.out.1,PB.new w1 q.c _⟩⟩
 case round=>
  obtain ⟨k,rfl,hk,hP0⟩:=hrel;obtain ⟨fs,A1,cA,hF,hnb,P0⟩:=hP0.out;clear hP0;have hE0:Ext w1 wr:=P0.ex;have hEw:Ext w wr:=Ext.trans hE1 hE0;have hr0:=Ext.keep hE0 hs0;have HPA:=Zh (hF.parts hk HQ.out hu3 HFM.out);have HFS:=Zh (fm_of_not_big HPA.out hnb);have HF:=Zh hF;have HNB:=Zh hnb;obtain ⟨P,hP⟩:∃ P,P=sumTo q fs k:=⟨_,rfl⟩;rw [← hP] at P0 HFS;have HP:=Zh hP;clear hF hnb hP;by_cases hlt:k < us.length
  .obtain ⟨a,hak⟩:∃ a,us[k]?=some a:=⟨us[k],List.getElem?_eq_getElem hlt⟩;obtain ⟨b,o,A2,n2,c2,rfl,hc2,hcap2,hri2⟩:=RS.at_ (RS.ext HS3.out hEw) hak;obtain ⟨of,hof⟩:∃ of,of=form ps a:=⟨_,rfl⟩;have HIA:Hid (FormV ar ps a of):=Zh (by rw [hof];exact HI.out a (List.mem_of_getElem? hak));have HFMA:=Zh (HFM.out a (List.mem_of_getElem? hak));have HOF:=Zh hof;have HAK:=Zh hak;have HR2:=Zh hri2;have HC2:=Zh hcap2;clear hri2 hcap2 hof hak;have hki:(k:Int) < (us.length:Int):=by omega
   have hk0:(0:Int)≤(k:Int):=by omega
   go_wp2_with fail;refine wp_only (R:=fun (a0:Act) (a8:Act) (w9:World)=>∃ (g:Nat) (A3:Option Addr) (n3:Nat) (c3:Nat),a8=((((((((((((a0.put (some 26) (.agg #[.slice As ns cs])).put (some 27) (.slice B m d)).put (some 28) (.slice (some ⟨b,o,none⟩) us.length c)).put (some 29) (.int .i64 (k:Int))).put (some 30) (.pointer (some ⟨b,o+k,none⟩))).put (some 31) (.slice A2 n2 c2)).put (some 32) (.tuple #[.agg #[.int .i64 (rp of).c,.slice A3 n3 c3],.bool of.isSome])).put (some 25) (.tuple #[.agg #[.int .i64 (rp of).c,.slice A3 n3 c3],.bool of.isSome])).put (some 33) (.agg #[.int .i64 (rp of).c,.slice A3 n3 c3])).put (some 34) (.bool of.isSome)).put (some 12) (.pointer (some ⟨g,0,none⟩))).put (some 13) (.bool of.isSome))∧n3=(rp of).cf.length∧PG wr w9 g (rp of).c A3 c3 (rp of).cf) ?_ (fun a8 w5 hR=>?_)
   .refine wp_region_held_drew (S:=(fun w'=>Ext wr w')) Zk ((Ext.refl wr).drew) (fun hH=>?_);refine Z3 0 (.agg #[.slice As ns cs]) 26 hH ?_ ?_
    .exact z15q43
    refine Z3 1 (.slice B m d) 27 hH ?_ ?_
    .exact z15q43
    refine Z3 2 (.slice (some ⟨b,o,none⟩) us.length c) 28 hH ?_ ?_
    .exact z15q43
    refine Z3 3 (.int .i64 (k:Int)) 29 hH ?_ ?_
    .exact z15q43
    refine Z3 4 (.pointer (some ⟨b,o+k,none⟩)) 30 hH ?_ ?_
    .exact z15q43
    refine Z3 5 (.slice A2 n2 c2) 31 hH ?_ ?_
    .exact z15q43
    refine wpAnyH_ready (rs:=[6,10]) Zk (by simp) ?_;refine AllReadyH.cons rfl (fun K hK=>?_) (AllReadyH.cons rfl (fun K hK=>?_) (AllReadyH.nil))
    .rw [if_pos Zr];go_wp2_with fail
     (with_reducible refine (HIA.out _ _ _ _ (RdSig.mk (RI.ext HA.out (Ext.trans hEw hH))) (RdPs.mk (RP.ext HB.out (Ext.trans hEw hH))) (RdIc.mk HC2.out (RI.ext HR2.out hH))).mono ?_);rintro e w9 ⟨A3,n3,c3,rfl,hO3,hE9⟩;refine hK.out _ _ (Ext.trans hH hE9) (fun hH9=>?_);clear hK;have hH0:=hH;clear hH;have hH:=hH9;clear hH9;try simp only [Act.put,Zl]
     refine Z3 7 (.tuple #[.agg #[.int .i64 (rp of).c,.slice A3 n3 c3],.bool of.isSome]) 25 hH ?_ ?_
     .exact z15q43
     refine Z3 8 (.agg #[.int .i64 (rp of).c,.slice A3 n3 c3]) 33 hH ?_ ?_
     .exact z15q43
     refine Z3 9 (.bool of.isSome) 34 hH ?_ ?_
     .exact z15q43
     refine Z4 10 fun K hK=>?_;go_wp2_with fail;refine hK.out _ _ (hH.alloc _) (fun hH9=>?_);clear hK;have hH0:=hH;clear hH;have hH:=hH9;clear hH9;try simp only [Act.put,Zl]
     refine Z4 11 fun K hK=>?_;go_wp2_with fail;refine hK.out _ _ (hH0.alloc _) (fun hH9=>?_);clear hK;have hH0:=hH;clear hH;have hH:=hH9;clear hH9;try simp only [Act.put,Zl]
     refine Z3 12 (.bool of.isSome) 13 hH ?_ ?_
     .exact z15q43
     refine wpAnyH_done Zk ?_ _;refine ⟨w9.heap.size,A3,n3,c3,Zr,hO3.len.symm,PG.of hO3.len.symm (by simp [go_sem]) (by simp [go_sem]) (by intro j;simp [go_sem]) (OwI.alloc hO3 _) (fun b o s e=>?_) (by have:=hE9.size;simp [go_sem] at this;omega) hH⟩;have:=(hO3.bd b o s e).2;omega
    .rw [if_pos Zr];go_wp2_with fail;refine hK.out _ _ (hH.alloc _) (fun hH9=>?_);clear hK;have hH0:=hH;clear hH;have hH:=hH9;clear hH9;try simp only [Act.put,Zl]
     refine Z4 6 fun K hK=>?_;go_wp2_with fail
     (with_reducible refine (HIA.out _ _ _ _ (RdSig.mk (RI.ext HA.out (Ext.trans hEw hH))) (RdPs.mk (RP.ext HB.out (Ext.trans hEw hH))) (RdIc.mk HC2.out (RI.ext HR2.out hH))).mono ?_);rintro e w9 ⟨A3,n3,c3,rfl,hO3,hE9⟩;refine hK.out _ _ (Ext.trans hH hE9) (fun hH9=>?_);clear hK;have hH0:=hH;clear hH;have hH:=hH9;clear hH9;try simp only [Act.put,Zl]
     refine Z3 7 (.tuple #[.agg #[.int .i64 (rp of).c,.slice A3 n3 c3],.bool of.isSome]) 25 hH ?_ ?_
     .exact z15q43
     refine Z3 8 (.agg #[.int .i64 (rp of).c,.slice A3 n3 c3]) 33 hH ?_ ?_
     .exact z15q43
     refine Z3 9 (.bool of.isSome) 34 hH ?_ ?_
     .exact z15q43
     refine Z4 11 fun K hK=>?_;obtain ⟨k0,k1,kf⟩:=box_ext hE9 (q:=wr.heap.size) (u:=.int .i64 0) (v:=.slice none 0 0) (by simp [go_sem]) (by simp [go_sem]) (by intro j;simp [go_sem]);go_wp2_with fail;refine hK.out _ _ ((hH.set (Nat.le_refl _) _).set (Nat.le_refl _) _) (fun hH9=>?_);clear hK;have hH0:=hH;clear hH;have hH:=hH9;clear hH9;try simp only [Act.put,Zl]
     refine Z3 12 (.bool of.isSome) 13 hH ?_ ?_
     .exact z15q43
     refine wpAnyH_done Zk ?_ _;refine ⟨wr.heap.size,A3,n3,c3,Zr,hO3.len.symm,PG.put hO3.len.symm k0 k1 kf (hO3.lower (by simp [go_sem])) (fun b o s e=>?_) (Nat.le_refl _) hH0⟩;have:=(hO3.bd b o s e).1;simp [go_sem] at this;omega
   obtain ⟨g,A3,n3,c3,ha,hn3,Pf⟩:=hR;simp only [Act.put,Zl] at ha;subst ha;have HN3:=Zh hn3;clear hn3;have hE5:Ext wr w5:=Pf.ex;have hEw5:Ext w w5:=Ext.trans hEw hE5;have hE15:Ext w1 w5:=Ext.trans hE0 hE5;have hp2:=Ext.keep hE15 hs2;have hp3:=Ext.keep hE15 hs3;have hp4:∀ o,w5.frozen? ⟨w.heap.size+1+1,o,none⟩=false:=fun o=>(Below.frozen (p:=⟨w.heap.size+1+1,o,none⟩) hE15 (by show w.heap.size+1+1 < _;omega)).trans (hs4 o);clear hr0 hc2;cases of with
   | none=>
    have HR:=Zh (show (formL ps us).bind (fun fs=>appP q fs)=none by rw [formL_none HAK.out HOF.out.symm];rfl);clear P0 Pf;go_wp2_with fail;refine bodyPost_ret (v:=.tuple #[.agg #[.int .i64 0,.slice none 0 0],.bool false]) (by simp [results,Tryz.results108,go_sem,hp2,hp3,hp4]) rfl ?_;rw [HR.out];exact ⟨none,0,0,rfl,⟨Zo,World.ownsRow_nil _ _ _ _⟩,extX⟩
   | some f=>
    obtain ⟨b7,o7,mk,hD7,hmk,hcmk⟩:=RI.at_ HD.out hlt;have hmkb:=HQ.out.2 mk (List.mem_of_getElem? hmk);have HSN:=Zh (sumTo_snoc (p:=q) (f:=f) HF.out.1);have HFN:=Zh (HF.out.push HAK.out HOF.out.symm);have HFF:=Zh (HFMA.out f HOF.out.symm);have hsn:sumTo q (fs++[f]) (k+1)=addP P f mk:=by rw [HSN.out,← HP.out,getD_at' hmk]
    have HS8:=Zh hsn;clear HSN hsn hmk;have P1:=P0.ext hE5;have hq0:=P1.c0;have hq1:=P1.c1;have hf0:w5.cell? ⟨g,0,none⟩=some (.int .i64 f.c):=Pf.c0;have hf1:w5.cell? ⟨g,1,none⟩=some (.slice A3 n3 c3):=by rw [HN3.out];exact Pf.c1
    have hpc:=Ext.keep hE15 hs1;have hd7:=Ext.keep hEw5 hcmk;have HRP:=Zh (show RdPl w5 (.agg #[.int .i64 P.c,.slice A1 P.cf.length cA]) P from RdPl.mk P1.oA.ri);have HRF:=Zh (show RdPl w5 (.agg #[.int .i64 f.c,.slice A3 n3 c3]) f from RdPl.mk (by rw [HN3.out];exact Pf.oA.ri));have HP1:=Zh P1;have hsz5:w1.heap.size < w5.heap.size:=P1.lt;subst hD7;clear P0 P1 Pf hcmk;go_wp2_with fail;refine wp_only (R:=fun (a0:Act) (a8:Act) (w9:World)=>∃ (g8:Nat) (x:Int) (A4:Option Addr) (n4:Nat) (c4:Nat) (zs:List Int) (ok:Bool),a8=(((((((((((((a0.put (some 39) (.agg #[.int .i64 P.c,.slice A1 P.cf.length cA])).put (some 40) (.agg #[.int .i64 f.c,.slice A3 n3 c3])).put (some 41) (.pointer (some ⟨w.heap.size+1,1,none⟩))).put (some 42) (.slice (some ⟨b7,o7,none⟩) us.length e)).put (some 43) (.int .i64 (k:Int))).put (some 44) (.pointer (some ⟨b7,o7+k,none⟩))).put (some 45) (.int .i64 mk)).put (some 46) (.tuple #[.agg #[.int .i64 x,.slice A4 n4 c4],.bool ok])).put (some 38) (.tuple #[.agg #[.int .i64 x,.slice A4 n4 c4],.bool ok])).put (some 47) (.agg #[.int .i64 x,.slice A4 n4 c4])).put (some 48) (.bool ok)).put (some 14) (.pointer (some ⟨g8,0,none⟩))).put (some 15) (.bool ok))∧n4=zs.length∧(ok=true↔¬ Big (addP P f mk))∧(ok=true→x=(addP P f mk).c∧zs=(addP P f mk).cf)∧PG w5 w9 g8 x A4 c4 zs) ?_ (fun a8 w8 hR=>?_)
    .refine wp_region_held_drew (S:=(fun w'=>Ext w5 w')) Zk ((Ext.refl w5).drew) (fun hH=>?_);refine Z3 0 (.agg #[.int .i64 P.c,.slice A1 P.cf.length cA]) 39 hH ?_ ?_
     .exact z16q43
     refine Z3 1 (.agg #[.int .i64 f.c,.slice A3 n3 c3]) 40 hH ?_ ?_
     .exact z16q43
     refine Z3 2 (.pointer (some ⟨w.heap.size+1,1,none⟩)) 41 hH ?_ ?_
     .exact z16q43
     refine Z3 3 (.slice (some ⟨b7,o7,none⟩) us.length e) 42 hH ?_ ?_
     .exact z16q43
     refine Z3 4 (.int .i64 (k:Int)) 43 hH ?_ ?_
     .exact z16q43
     refine Z3 5 (.pointer (some ⟨b7,o7+k,none⟩)) 44 hH ?_ ?_
     .exact z16q43
     refine Z3 6 (.int .i64 mk) 45 hH ?_ ?_
     .exact z16q43
     refine wpAnyH_ready (rs:=[7,11]) Zk (by simp) ?_;refine AllReadyH.cons rfl (fun K hK=>?_) (AllReadyH.cons rfl (fun K hK=>?_) (AllReadyH.nil))
     .rw [if_pos Zr];go_wp2_with fail
      (with_reducible refine (c_l15Add (a:=P) (b:=f) (HRP.out.ext hH) (HRF.out.ext hH) HFS.out HFF.out hmkb).mono ?_);rintro e w9 ⟨x,A4,n4,c4,zs,ok,rfl,hO4,hok,hval,hE9⟩;refine hK.out _ _ (Ext.trans hH hE9) (fun hH9=>?_);clear hK;have hH0:=hH;clear hH;have hH:=hH9;clear hH9;try simp only [Act.put,Zl]
      refine Z3 8 (.tuple #[.agg #[.int .i64 x,.slice A4 n4 c4],.bool ok]) 38 hH ?_ ?_
      .exact z16q43
      refine Z3 9 (.agg #[.int .i64 x,.slice A4 n4 c4]) 47 hH ?_ ?_
      .exact z16q43
      refine Z3 10 (.bool ok) 48 hH ?_ ?_
      .exact z16q43
      refine Z4 11 fun K hK=>?_;go_wp2_with fail;refine hK.out _ _ (hH.alloc _) (fun hH9=>?_);clear hK;have hH0:=hH;clear hH;have hH:=hH9;clear hH9;try simp only [Act.put,Zl]
      refine Z4 12 fun K hK=>?_;go_wp2_with fail;refine hK.out _ _ (hH0.alloc _) (fun hH9=>?_);clear hK;have hH0:=hH;clear hH;have hH:=hH9;clear hH9;try simp only [Act.put,Zl]
      refine Z3 13 (.bool ok) 15 hH ?_ ?_
      .exact z16q43
      refine wpAnyH_done Zk ?_ _;refine ⟨w9.heap.size,x,A4,n4,c4,zs,ok,Zr,hO4.len.symm,hok,hval,PG.of hO4.len.symm (by simp [go_sem]) (by simp [go_sem]) (by intro j;simp [go_sem]) (OwI.alloc hO4 _) (fun b o s e=>?_) (by have:=hE9.size;simp [go_sem] at this;omega) hH⟩;have:=(hO4.bd b o s e).2;omega
     .rw [if_pos Zr];go_wp2_with fail;refine hK.out _ _ (hH.alloc _) (fun hH9=>?_);clear hK;have hH0:=hH;clear hH;have hH:=hH9;clear hH9;try simp only [Act.put,Zl]
      refine Z4 7 fun K hK=>?_;go_wp2_with fail
      (with_reducible refine (c_l15Add (a:=P) (b:=f) (HRP.out.ext hH) (HRF.out.ext hH) HFS.out HFF.out hmkb).mono ?_);rintro e w9 ⟨x,A4,n4,c4,zs,ok,rfl,hO4,hok,hval,hE9⟩;refine hK.out _ _ (Ext.trans hH hE9) (fun hH9=>?_);clear hK;have hH0:=hH;clear hH;have hH:=hH9;clear hH9;try simp only [Act.put,Zl]
      refine Z3 8 (.tuple #[.agg #[.int .i64 x,.slice A4 n4 c4],.bool ok]) 38 hH ?_ ?_
      .exact z16q43
      refine Z3 9 (.agg #[.int .i64 x,.slice A4 n4 c4]) 47 hH ?_ ?_
      .exact z16q43
      refine Z3 10 (.bool ok) 48 hH ?_ ?_
      .exact z16q43
      refine Z4 12 fun K hK=>?_;obtain ⟨k0,k1,kf⟩:=box_ext hE9 (q:=w5.heap.size) (u:=.int .i64 0) (v:=.slice none 0 0) (by simp [go_sem]) (by simp [go_sem]) (by intro j;simp [go_sem]);go_wp2_with fail;refine hK.out _ _ ((hH.set (Nat.le_refl _) _).set (Nat.le_refl _) _) (fun hH9=>?_);clear hK;have hH0:=hH;clear hH;have hH:=hH9;clear hH9;try simp only [Act.put,Zl]
      refine Z3 13 (.bool ok) 15 hH ?_ ?_
      .exact z16q43
      refine wpAnyH_done Zk ?_ _;refine ⟨w5.heap.size,x,A4,n4,c4,zs,ok,Zr,hO4.len.symm,hok,hval,PG.put hO4.len.symm k0 k1 kf (hO4.lower (by simp [go_sem])) (fun b o s e=>?_) (Nat.le_refl _) hH0⟩;have:=(hO4.bd b o s e).1;simp [go_sem] at this;omega
    obtain ⟨g8,x,A4,n4,c4,zs,ok,ha,hn4,hok,hval,Pg⟩:=hR;simp only [Act.put,Zl] at ha;subst ha;have HN4:=Zh hn4;clear hn4;have hE8:Ext w5 w8:=Pg.ex;have hEw8:Ext w w8:=Ext.trans hEw5 hE8;have P8:=HP1.out.ext hE8;have hv2:=Ext.keep hE8 hp2;have hv3:=Ext.keep hE8 hp3;have hp5:w.heap.size+1+1 < w5.heap.size:=by omega
    have hv4:∀ o,w8.frozen? ⟨w.heap.size+1+1,o,none⟩=false:=fun o=>(Below.frozen (p:=⟨w.heap.size+1+1,o,none⟩) hE8 hp5).trans (hp4 o);have HOK:=Zh hok;have HVAL:=Zh hval;clear hok hval hp2 hp3 hp4 hq0 hq1 hf0 hf1 hpc hd7;cases ok with
    | false=>
     have hbig:Big (sumTo q (fs++[f]) (k+1)):=by
      rw [HS8.out];exact Classical.byContradiction fun h=>by have:=HOK.out.2 h;cases this
     have HR:=Zh (big_early HFN.out Zo HQ.out hu3 HFM.out hbig);clear P8 Pg hbig;go_wp2_with fail;refine bodyPost_ret (v:=.tuple #[.agg #[.int .i64 0,.slice none 0 0],.bool false]) (by simp [results,Tryz.results108,go_sem,hv2,hv3,hv4]) rfl ?_;rw [HR.out];exact ⟨none,0,0,rfl,⟨Zo,World.ownsRow_nil _ _ _ _⟩,extX⟩
    | true=>
     obtain ⟨hx,hzs⟩:=HVAL.out rfl;have hg0:=Pg.c0;have hg1:=Pg.c1;rw [← HN4.out] at hg1;have hy0:=P8.c0;have hy1:=P8.c1;have hyf:=P8.fr;have HN:=Zh (show PB w1 ((w8.setCell ⟨w1.heap.size,0,none⟩ (.int .i64 x)).setCell ⟨w1.heap.size,1,none⟩ (.slice A4 n4 c4)) x A4 c4 zs from P8.put HN4.out (by rw [HN4.out];exact Pg.oA.lower Zo));have HX:=Zh hx;have HZ:=Zh hzs;clear P8 Pg hx hzs;go_wp2_with fail;go_roundw
     case rel=>exact ⟨k+1,by go_num,Zo,Zh ⟨_,_,_,HFN.out,by rw [HS8.out];exact HOK.out.1 rfl,by rw [HS8.out,← HX.out,← HZ.out];exact HN.out⟩⟩
     case measure=>exact mq43
  .have hkn:k=us.length:=by omega
   subst hkn;have HR:=Zh (show (formL ps us).bind (fun fs=>appP q fs)=some P by rw [HF.out.all,HP.out];exact app_sum HF.out.1 HNB.out);have hq0:=P0.c0;have hq1:=P0.c1;have hp2:=Ext.keep hE0 hs2;have hp3:=Ext.keep hE0 hs3;have hp4:∀ o,wr.frozen? ⟨w.heap.size+1+1,o,none⟩=false:=fun o=>(Below.frozen (p:=⟨w.heap.size+1+1,o,none⟩) hE0 (by show w.heap.size+1+1 < _;omega)).trans (hs4 o);have HO:=Zh P0.oA;have hbd:=P0.oA.bd;clear P0;go_wp2_with fail;refine bodyPost_ret (v:=.tuple #[.agg #[.int .i64 P.c,.slice A1 P.cf.length cA],.bool true]) (by simp [results,Tryz.results108,go_sem,hp2,hp3,hp4]) rfl ?_;rw [HR.out];refine ⟨A1,_,cA,rfl,?_,extX⟩;exact ((HO.out.lower Zo).setFar _ fun g o s e=>by have:=(hbd g o s e).1;show g≠w.heap.size+1+1;omega).setFar _ fun g o s e=>by have:=(hbd g o s e).1;show g≠w.heap.size+1+1;omega

