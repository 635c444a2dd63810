/- -/
import Derived.Test.YtiblbnkpjmmjaaaGreatQ41
set_option maxRecDepth 100000
set_option maxHeartbeats 16000000
set_option linter.all false
namespace Go.Proofs.YtiblbnkpjmmjaaaGreat
theorem x0q42 {p:Prop} (h:p:=by rw [hw1];simp [go_sem]):p:=h
open Go.RowKit
def NewAdd (w:World) (f:Pl) (e:Ending) (w':World):Prop:=∃ (x:Int) (A:Option Addr) (n c:Nat) (xs:List Int) (ok:Bool),e=.returned (.tuple #[.agg #[.int .i64 x,.slice A n c],.bool ok])∧OwI w' w.heap.size A n c xs∧(ok=true↔¬ Big f)∧(ok=true→x=f.c∧xs=f.cf)∧Ext w w'
theorem mq42 {p:Prop} (h:p:=by simp only [intOf];omega):p:=h
theorem z15q42 {p:Prop} (h:p:=by (intro w' hE';(try dsimp only at hE');have x0:=Ext.keep hE' hs0;have x1:=Ext.keep hE' hs1;have x2:=Ext.keep hE' hs2;go_simp;try with_reducible rfl)):p:=h
theorem z16q42 {p:Prop} (h:p:=by (intro w' hE';(try dsimp only at hE');obtain ⟨x0,x1⟩:=hE';go_simp;try with_reducible rfl)):p:=h
theorem c_l15Add {v0 v1:Value} {a b:Pl} {m:Int} {w:World} (h0:RdPl w v0 a) (h1:RdPl w v1 b) (ha:Fm a) (hb:Fm b) (hm:0≤m∧m≤9) :
 Calls Tryz.prog 117 #[v0,v1,.int .i64 m] w (NewAdd w (addP a b m)):=by
 obtain ⟨A,n,c,rfl,ra⟩:=h0;obtain ⟨B,l,d,rfl,rb⟩:=h1;have hn:n≤24:=by rw [← ra.len];exact ha.2
 have hl:l≤24:=by rw [← rb.len];exact hb.2
 have HA:=Zh ra;have HB:=Zh rb;have hac:=ha.1.1;have hbc:=mul_bd hm hb.1.1;have HFA:=Zh (fun j=>ha.1.getD Zo j);have HFB:=Zh (fun j=>hb.1.getD Zo j);obtain ⟨i0,hii,hiz,his,hib⟩:=info_parts int64_info;clear ra rb ha hb;have hz1:IntKind.i64.wrap (m * b.c)=m * b.c:=IntWalk.i64_in _ Zo;have hz2:IntKind.i64.wrap (a.c+m * b.c)=a.c+m * b.c:=IntWalk.i64_in _ Zo;go_enter Tryz.func117,Tryz.ntmps117;go_wp2_with fail;obtain ⟨w1,hw1⟩:∃ w1,w1=((w.alloc (.cells #[.int .i64 a.c,.slice A n c] 82)).alloc (.cells #[.int .i64 b.c,.slice B l d] 82)).alloc (.cells #[.int .i64 0,.slice none 0 0] 82):=⟨_,rfl⟩;have hs0:w1.cell? ⟨w.heap.size,0,none⟩=some (.int .i64 a.c):=x0q42;have hs1:w1.cell? ⟨w.heap.size,1,none⟩=some (.slice A n c):=x0q42;have hs2:w1.cell? ⟨w.heap.size+1,0,none⟩=some (.int .i64 b.c):=x0q42;have hs3:w1.cell? ⟨w.heap.size+1,1,none⟩=some (.slice B l d):=x0q42;have hs4:w1.cell? ⟨w.heap.size+1+1,0,none⟩=some (.int .i64 0):=x0q42;have hs5:w1.cell? ⟨w.heap.size+1+1,1,none⟩=some (.slice none 0 0):=x0q42;have hs6:∀ o,w1.frozen? ⟨w.heap.size+1+1,o,none⟩=false:=by intro o;rw [hw1];simp [go_sem]
 have hE1:Ext w w1:=by rw [hw1];exact extX
 have hsz:w.heap.size+1+1 < w1.heap.size:=x0q42;rw [← hw1];clear hw1;refine wp_only (R:=fun (a0:Act) (a8:Act) (w9:World)=>∃ (g:Nat) (e2:Nat) (A2:Option Addr) (c2:Nat),a8=(((((((((((((a0.put (some 8) (.pointer (some ⟨g,0,none⟩))).put (some 11) (.pointer (some ⟨w.heap.size,0,none⟩))).put (some 12) (.int .i64 a.c)).put (some 13) (.int .i64 m)).put (some 14) (.pointer (some ⟨w.heap.size+1,0,none⟩))).put (some 15) (.int .i64 b.c)).put (some 16) (.int .i64 (m * b.c))).put (some 17) (.int .i64 (a.c+m * b.c))).put (some 18) (.slice (some ⟨e2,0,none⟩) 0 0)).put (some 19) (.pointer (some ⟨w.heap.size,1,none⟩))).put (some 20) (.slice A n c)).put (some 21) (.slice A2 n c2)).put (some 22) (.agg #[.int .i64 (a.c+m * b.c),.slice A2 n c2]))∧PG w1 w9 g (a.c+m * b.c) A2 c2 a.cf) ?_ (fun a8 w2 hR=>?_)
 .refine wp_region_held_drew (S:=(fun w'=>Ext w1 w')) Zk ((Ext.refl w1).drew) (fun hH=>?_);refine Z3 0 (.pointer (some ⟨w.heap.size,0,none⟩)) 11 hH ?_ ?_
  .exact z15q42
  refine Z3 1 (.int .i64 a.c) 12 hH ?_ ?_
  .exact z15q42
  refine Z3 2 (.int .i64 m) 13 hH ?_ ?_
  .exact z15q42
  refine Z3 3 (.pointer (some ⟨w.heap.size+1,0,none⟩)) 14 hH ?_ ?_
  .exact z15q42
  refine Z3 4 (.int .i64 b.c) 15 hH ?_ ?_
  .exact z15q42
  refine Z3 5 (.int .i64 (m * b.c)) 16 hH ?_ ?_
  .exact z15q42
  refine Z3 6 (.int .i64 (a.c+m * b.c)) 17 hH ?_ ?_
  .exact z15q42
  refine Z3 8 (.pointer (some ⟨w.heap.size,1,none⟩)) 19 hH ?_ ?_
  .exact z15q42
  refine Z3 9 (.slice A n c) 20 hH ?_ ?_
  .exact z15q42
  refine wpAnyH_ready (rs:=[7,12]) Zk (by simp) ?_;refine AllReadyH.cons rfl (fun K hK=>?_) (AllReadyH.cons rfl (fun K hK=>?_) (AllReadyH.nil))
  .rw [if_pos Zr];go_wp2_with fail;refine hK.out _ _ (hH.alloc _) (fun hH9=>?_);clear hK;have hH0:=hH;clear hH;have hH:=hH9;clear hH9;try simp only [Act.put,Zl]
   refine wpAnyH_ready (rs:=[10,12]) Zk (by simp) ?_;refine AllReadyH.cons rfl (fun K hK=>?_) (AllReadyH.cons rfl (fun K hK=>?_) (AllReadyH.nil))
   .rw [if_pos Zr];refine wp_append_new (.tmp 18) (.tmp 20) 27 rfl i0 Tryz.underlying27 hii hiz his hib (D:=w1.heap.size) rfl ((OwI.none0 (Nat.le_refl _)).ext ((Ext.refl _).drew)) rfl (RI.ext HA.out (Ext.trans hE1 hH)) (by go_size) (fun A2 c2 w9 hO9 hg9 hat9=>?_);refine hK.out _ _ (Ext.grown hH hg9 (fun k hk=>by cases hk;exact Nat.le_refl _)) (fun hH9=>?_);clear hK;have hH0:=hH;clear hH;have hH:=hH9;clear hH9;try simp only [Act.put,Zl]
    refine Z3 11 (.agg #[.int .i64 (a.c+m * b.c),.slice A2 n c2]) 22 hH ?_ ?_
    .exact z15q42
    refine Z4 12 fun K hK=>?_;go_wp2_with fail;refine hK.out _ _ (hH.alloc _) (fun hH9=>?_);clear hK;have hH0:=hH;clear hH;have hH:=hH9;clear hH9;try simp only [Act.put,Zl]
    refine Z4 13 fun K hK=>?_;go_wp2_with fail;refine hK.out _ _ (hH0.alloc _) (fun hH9=>?_);clear hK;have hH0:=hH;clear hH;have hH:=hH9;clear hH9;try simp only [Act.put,Zl]
    refine wpAnyH_done Zk ?_ _;refine ⟨w9.heap.size,w1.heap.size,A2,c2,Zr,PG.of (by rw [HA.out.len]) (by simp [go_sem]) (by simp [go_sem]) (by intro j;simp [go_sem]) (hO9.alloc _) (fun b o s e=>?_) (by have:=hg9.size;simp [go_sem] at this;omega) hH⟩;have:=(hO9.bd b o s e).2;omega
   .rw [if_pos Zr];go_wp2_with fail;refine hK.out _ _ (hH.alloc _) (fun hH9=>?_);clear hK;have hH0:=hH;clear hH;have hH:=hH9;clear hH9;try simp only [Act.put,Zl]
    refine Z4 10 fun K hK=>?_;refine wp_append_new (.tmp 18) (.tmp 20) 27 rfl i0 Tryz.underlying27 hii hiz his hib (D:=w1.heap.size) rfl ((OwI.none0 (Nat.le_refl _)).ext (Ext.drew (Ext.alloc (Ext.refl _) _))) rfl (RI.ext HA.out (Ext.trans hE1 hH)) (by go_size) (fun A2 c2 w9 hO9 hg9 hat9=>?_);refine hK.out _ _ (Ext.grown hH hg9 (fun k hk=>by cases hk;exact Nat.le_refl _)) (fun hH9=>?_);clear hK;have hH0:=hH;clear hH;have hH:=hH9;clear hH9;try simp only [Act.put,Zl]
    refine Z3 11 (.agg #[.int .i64 (a.c+m * b.c),.slice A2 n c2]) 22 hH ?_ ?_
    .exact z15q42
    refine Z4 13 fun K hK=>?_;obtain ⟨k0,k1,kf⟩:=box_grown hg9 (q:=w1.heap.size+1) (u:=.int .i64 0) (v:=.slice none 0 0) (by simp) (by simp [go_sem]) (by simp [go_sem]) (by intro j;simp [go_sem]);go_wp2_with fail;refine hK.out _ _ ((hH.set (Nat.le_succ _) _).set (Nat.le_succ _) _) (fun hH9=>?_);clear hK;have hH0:=hH;clear hH;have hH:=hH9;clear hH9;try simp only [Act.put,Zl]
    refine wpAnyH_done Zk ?_ _;refine ⟨w1.heap.size+1,w1.heap.size,A2,c2,Zr,PG.put (by rw [HA.out.len]) k0 k1 kf hO9 (fun b o s e=>?_) (Nat.le_succ _) hH0⟩;have:=hat9 b o s e;simp [go_sem] at this;omega
  .rw [if_pos Zr];go_wp2_with fail;refine hK.out _ _ (hH.alloc _) (fun hH9=>?_);clear hK;have hH0:=hH;clear hH;have hH:=hH9;clear hH9;try simp only [Act.put,Zl]
   refine Z4 7 fun K hK=>?_;go_wp2_with fail;refine hK.out _ _ (hH.alloc _) (fun hH9=>?_);clear hK;have hH0:=hH;clear hH;have hH:=hH9;clear hH9;try simp only [Act.put,Zl]
   refine Z4 10 fun K hK=>?_;refine wp_append_new (.tmp 18) (.tmp 20) 27 rfl i0 Tryz.underlying27 hii hiz his hib (D:=w1.heap.size) (g:=w1.heap.size+1) rfl (by have:=OwI.none0 (w:=w1.alloc (.cells #[.int .i64 0,.slice none 0 0] 82)) (D:=w1.heap.size) (by simp [go_sem]);simp only [World.size_alloc] at this;exact this.ext ((Ext.refl _).drew)) rfl (RI.ext HA.out (Ext.trans hE1 hH)) (by go_size) (fun A2 c2 w9 hO9 hg9 hat9=>?_);refine hK.out _ _ (Ext.grown hH hg9 (fun k hk=>by cases hk;exact Nat.le_succ _)) (fun hH9=>?_);clear hK;have hH0:=hH;clear hH;have hH:=hH9;clear hH9;try simp only [Act.put,Zl]
   refine Z3 11 (.agg #[.int .i64 (a.c+m * b.c),.slice A2 n c2]) 22 hH ?_ ?_
   .exact z15q42
   refine Z4 13 fun K hK=>?_;obtain ⟨k0,k1,kf⟩:=box_grown hg9 (q:=w1.heap.size) (u:=.int .i64 0) (v:=.slice none 0 0) (by simp) (by simp [go_sem]) (by simp [go_sem]) (by intro j;simp [go_sem]);go_wp2_with fail;refine hK.out _ _ ((hH.set (Nat.le_refl _) _).set (Nat.le_refl _) _) (fun hH9=>?_);clear hK;have hH0:=hH;clear hH;have hH:=hH9;clear hH9;try simp only [Act.put,Zl]
   refine wpAnyH_done Zk ?_ _;refine ⟨w1.heap.size,w1.heap.size+1,A2,c2,Zr,PG.put (by rw [HA.out.len]) k0 k1 kf hO9 (fun b o s e=>?_) (Nat.le_refl _) hH0⟩;have:=hat9 b o s e;simp [go_sem] at this;omega
 obtain ⟨g,e2,A2,c2,ha,P2⟩:=hR;simp only [Act.put,Zl] at ha;subst ha;clear hs0 hs1 hs2;obtain ⟨C,hC⟩:∃ C,C=a.c+m * b.c:=⟨_,rfl⟩;rw [← hC] at P2 ⊢;have HC:=Zh hC;clear hC hz1 hz2;go_wp2_with fail;go_loopw [9] (fun i wr=>∃ k:Nat,i=.int .i64 k∧k≤l∧Hid (∃ A cA ys,PG w1 wr g C A cA ys∧ys=addL a.cf (b.cf.take k) m)) (fun i _=>l - (intOf i).toNat)
 case atStart=>exact ⟨0,rfl,Nat.zero_le _,Zh ⟨A2,c2,a.cf,P2,by rw [List.take_zero,addL_nil]⟩⟩
 case round=>
  obtain ⟨k,rfl,hk,hP0⟩:=hrel;obtain ⟨A3,c3,ys,P3,hys⟩:=hP0.out;clear hP0;have hr3:=Ext.keep P3.ex hs3;have hEr:Ext w1 wr:=P3.ex;have hEsz:=hEr.size;have hEw:Ext w wr:=Ext.trans hE1 hEr;have hyl:ys.length≤24:=by rw [hys,addL_len,HA.out.len,List.length_take];omega
  have h30:=P3.c0;have h31:=P3.c1;have h3f:=P3.fr;have hglt:=P3.lt;by_cases hlt:k < l
  .obtain ⟨b',o',y,rfl,hy,hcyw⟩:=RI.at_ HB.out hlt;have hcy:=Ext.keep hEw hcyw;have hyb:=HFB.out k;rw [getD_at' hy] at hyb;have hmy:=mul_bd hm hyb;have hkl:(k:Int) < (l:Int):=by omega
   have hk0:(0:Int)≤(k:Int):=by omega
   have hSN:=addL_snoc (al:=a.cf) (m:=m) hy hys;have HYS:=Zh hys;have HSN:=Zh hSN;clear hy hys hSN;have hz3:IntKind.i64.wrap (m * y)=m * y:=IntWalk.i64_in _ Zo;by_cases hin:k < ys.length
   .obtain ⟨b3,o3,z,rfl,hzz,hcz⟩:=RI.at_ P3.oA.ri hin;have hzb:0≤z∧z≤1000000000000:=by
     have h1:=addL_get a.cf (b.cf.take k) m k;rw [← HYS.out,getD_at' hzz,List.getD_eq_getElem?_getD (l:=List.take _ _),List.getElem?_take_eq_none (Nat.le_refl _)] at h1;have h2:=HFA.out k;simp only [Option.getD_none,Int.mul_zero,Int.add_zero] at h1;omega
    have hz4:IntKind.i64.wrap (z+m * y)=z+m * y:=IntWalk.i64_in _ Zo;have hin':(k:Int) < (ys.length:Int):=by omega
    have ho3:o3=0:=by rcases P3.oA.form with ⟨h,_⟩ | ⟨g',h,_⟩<;>cases h;rfl
    subst ho3;rw [Nat.zero_add] at hcz;obtain ⟨z',hz',_,hfz⟩:=OwI.at_ P3.oA hin;have HP:=Zh (P3.setE k (z+m * y));have HZ:=Zh (getD_at' hzz);clear hzz hz' P3;go_wp2_with fail;go_still_tail 16,Zk
    change wpList _ _ _ _ _ wr.drew
    go_wp2_with fail;go_roundw
    case rel=>exact ⟨k+1,by go_num,Zo,Zh ⟨_,_,_,HP.out.ext (Ext.drew (Ext.refl _)),by rw [HSN.out,if_pos hin,HZ.out]⟩⟩
    case measure=>exact mq42
   .have hyk:ys.length=k:=by rw [HYS.out,addL_len,List.length_take,HB.out.len] at hin ⊢;omega
    have HP:=Zh P3;have HO:=Zh (show OwI wr w1.heap.size A3 k c3 ys by rw [← hyk];exact P3.oA);have HYK:=Zh hyk;rw [hyk] at h31;have hk24:k≤24:=by omega
    clear P3 hyk hyl hin;go_wp2_with (at_builtin;go_loud (refine wpList_append_lies _ rfl (.tmp 36) (.tmp 37) 27 rfl w1.heap.size 2 i0 (.int .i64 0) 1 8 Tryz.underlying27 hii hiz his hib rfl (by decide) _ _ _ rfl (OwI.alloc HO.out _).2 ⟨wr.heap.size,0,none⟩ 1 1 [.int .i64 0] rfl rfl (one_cells _ _ _) (one_one _) (by decide) (by unfold maxLen;omega) Zo (by go_size) _ rfl ?_))
    intro g4 cap wx hown hg hat hltg;have HFar:=Zh (PG.far HP.out (by rw [HYK.out];exact hg));have HGR:=Zh (PG.grown HP.out (by rw [HYK.out];exact hg));have hx0:wx.cell? ⟨g,1,none⟩=some (.slice A3 k c3):=(HFar.out.1 1).trans h31;have hxf:∀ j,wx.frozen? ⟨g,j,none⟩=false:=HFar.out.2;have hxb:=Ext.keep HGR.out hs3;have hxy:=Ext.keep (Ext.trans hE1 HGR.out) hcyw;have P4:=PG.push HP.out (y:=0) (by rw [HYK.out];omega) (by rw [HYK.out];exact hown) (by rw [HYK.out];exact hg) (by rw [HYK.out];exact hat.imp id (fun e=>e.trans (by simp [go_sem]))) hltg;rw [HYK.out] at P4;clear hown hg hat
    go_wp2_with fail;obtain ⟨wq,hwq⟩:∃ wq,wq=wx.setCell ⟨g,1,none⟩ (.slice (some ⟨g4,0,none⟩) (k+1) cap):=⟨_,rfl⟩;rw [← hwq] at P4 ⊢;have hr4:=Ext.keep P4.ex hs3;have hEq:=P4.ex;have hq1:=P4.c1;have hcq:=Ext.keep (Ext.trans hE1 hEq) hcyw;rw [List.length_append,List.length_singleton,HYK.out] at hq1;obtain ⟨z',hz',hcz,hfz⟩:=OwI.at_ P4.oA (show k < (ys++[0]).length by simp [HYK.out]);have hz0:z'=0:=by
     rw [List.getElem?_append_right (by rw [HYK.out];omega),HYK.out,Nat.sub_self] at hz';cases hz';rfl
    subst hz0;have HP4:=Zh (P4.setE k (m * y));obtain ⟨k1,hk1⟩:∃ k1,k1=k+1:=⟨_,rfl⟩;rw [← hk1] at hq1;have hin4:(k:Int) < (k1:Int):=by omega
    clear hk1;clear hwq hx0 hxf hxb hxy P4 hz' h30 h31 h3f hcy hr3;go_still_tail 16,Zk
    change wpList _ _ _ _ _ wq.drew
    go_wp2_with fail;go_roundw
    case rel=>exact ⟨k+1,by go_num,Zo,Zh ⟨_,_,_,HP4.out.ext (Ext.drew (Ext.refl _)),by rw [HSN.out,if_neg (by rw [HYK.out];omega),Int.zero_add]⟩⟩
    case measure=>exact mq42
  .have hkl:k=l:=by omega
   have hF:ys=(addP a b m).cf:=by
    rw [hys,List.take_of_length_le (by rw [HB.out.len];omega)];rfl
   subst hF;have hgge:=P3.ge;have HP:=Zh P3;have hCF:C=(addP a b m).c:=HC.out;have HCF:=Zh hCF;clear hCF hkl;have hEr3:Ext w1 wr:=P3.ex;have hr4:=Ext.keep hEr hs4;have hr5:=Ext.keep hEr hs5;have hr6:∀ o,wr.frozen? ⟨w.heap.size+1+1,o,none⟩=false:=fun o=>(Below.frozen (p:=⟨w.heap.size+1+1,o,none⟩) hEr Zo).trans (hs6 o);obtain ⟨zs,hzs⟩:∃ zs,zs=(addP a b m).cf:=⟨_,rfl⟩;rw [← hzs] at h31 hyl P3;have HZ:=Zh hzs;have HR:=Zh P3.oA.ri;have HO:=Zh P3.oA;clear P3 hys hzs;have hwsz:=hEr.size;have hge:w.heap.size+1+1 < wr.heap.size:=by omega
   obtain ⟨wo,rfl⟩:∃ wo:World,wo=wr:=⟨_,rfl⟩;go_wp2_with fail;go_loopw [10] (fun i wr=>∃ k:Nat,i=.int .i64 k∧k≤zs.length∧Hid (∀ (j:Nat) (x:Int),j < k→zs[j]?=some x→x≤1000000000000)∧Ext wo wr) (fun i _=>zs.length - (intOf i).toNat)
   case atStart=>exact ⟨0,rfl,Nat.zero_le _,Zh fun j x hj=>Zo,Ext.refl _⟩
   case round=>
    obtain ⟨j,rfl,hj,hall,hE4⟩:=hrel;have hf1:=Ext.keep hE4 h31;have hf0:=Ext.keep hE4 h30;have hf4:=Ext.keep hE4 hr4;have hf5:=Ext.keep hE4 hr5;have hf6:∀ o,wr.frozen? ⟨w.heap.size+1+1,o,none⟩=false:=fun o=>(Below.frozen (p:=⟨w.heap.size+1+1,o,none⟩) hE4 hge).trans (hr6 o);have hEw4:Ext w wr:=Ext.trans hEw hE4;by_cases hjl:j < zs.length
    .obtain ⟨b5,o5,x,rfl,hx,hcx⟩:=RI.at_ (RI.ext HR.out hE4) hjl;have HX:=Zh hx;clear hx;have hji:(j:Int) < (zs.length:Int):=by omega
     have hj0:(0:Int)≤(j:Int):=by omega
     by_cases hbig:1000000000000 < x
     .have HBIG:Big (addP a b m):=.inr ⟨x,by rw [← HZ.out];exact List.mem_of_getElem? HX.out,hbig⟩;have HBG:=Zh HBIG;clear HBIG;go_wp2;refine bodyPost_ret (v:=.tuple #[.agg #[.int .i64 0,.slice none 0 0],.bool false]) (by simp [results,Tryz.results117,go_sem,hf4,hf5,hf6]) rfl ?_;refine ⟨0,none,0,0,[],false,rfl,⟨Zo,World.ownsRow_nil _ _ _ _⟩,⟨fun h=>(by cases h),fun h=>absurd HBG.out h⟩,(fun h=>(by cases h)),extX⟩
     .go_wp2;go_roundw
      case rel=>exact ⟨j+1,by go_num,Zo,Zh (fun t y ht hy=>by
       rcases Nat.lt_or_ge t j with h | h
       .exact hall.out t y h hy
       .obtain rfl:t=j:=by omega
        rw [HX.out] at hy;cases hy;omega),extX⟩
      case measure=>exact mq42
    .go_wp2_with fail;refine wp_only (R:=fun (a0:Act) (a8:Act) (w9:World)=>a8=(((((a0.put (some 71) (.agg #[.int .i64 C,.slice A3 zs.length c3])).put (some 72) (.pointer (some ⟨g,0,none⟩))).put (some 73) (.int .i64 C)).put (some 74) (.bool (decide (C≤1000000000000)))).put (some 7) (.bool (decide (C≤1000000000000))))∧w9=((wr.setCell ⟨w.heap.size+1+1,0,none⟩ (.int .i64 C)).setCell ⟨w.heap.size+1+1,1,none⟩ (.slice A3 zs.length c3)).drew) ?_ (fun a8 w5 hR=>?_)
     .refine wp_region_held_drew (S:=(fun w'=>w'.cell? ⟨g,0,none⟩=some (.int .i64 C)∧w'.cell? ⟨g,1,none⟩=some (.slice A3 zs.length c3))) Zk (⟨by simpa [go_sem] using hf0,by simpa [go_sem] using hf1⟩) (fun hH=>?_);refine Z3 0 (.agg #[.int .i64 C,.slice A3 zs.length c3]) 71 hH ?_ ?_
      .exact z16q42
      refine Z3 1 (.pointer (some ⟨g,0,none⟩)) 72 hH ?_ ?_
      .exact z16q42
      refine Z3 2 (.int .i64 C) 73 hH ?_ ?_
      .exact z16q42
      refine Z3 3 (.bool (decide (C≤1000000000000))) 74 hH ?_ ?_
      .exact z16q42
      refine Z4 4 fun K hK=>?_;go_wp2_with fail;refine hK.out _ _ (⟨by show (World.setCell (World.setCell _ _ _) _ _).cell? _=_;rw [World.cell?_setCell_other _ _ _ _ (by first | (simp;done) | (simp;omega)),World.cell?_setCell_other _ _ _ _ (by first | (simp;done) | (simp;omega))];exact hH.1,by show (World.setCell (World.setCell _ _ _) _ _).cell? _=_;rw [World.cell?_setCell_other _ _ _ _ (by first | (simp;done) | (simp;omega)),World.cell?_setCell_other _ _ _ _ (by first | (simp;done) | (simp;omega))];exact hH.2⟩) (fun hH9=>?_);clear hK;have hH0:=hH;clear hH;have hH:=hH9;clear hH9;try simp only [Act.put,Zl]
      refine Z3 5 (.bool (decide (C≤1000000000000))) 7 hH ?_ ?_
      .exact z16q42
      refine wpAnyH_done Zk ?_ _;exact ⟨Zr,rfl⟩
     obtain ⟨ha,hw5⟩:=hR;simp only [Act.put,Zl] at ha;subst ha;have hbd:=HO.out.bd;have h5:OwI w5 w.heap.size A3 zs.length c3 zs:=by
      rw [hw5];refine OwI.ext (OwI.setFar (OwI.setFar (((HO.out.lower Zo).ext hE4)) _ (fun g o s e=>?_)) _ (fun g o s e=>?_)) (Ext.drew (Ext.refl _))
      .have:=(hbd g o s e).1;show g≠w.heap.size+1+1;omega
      .have:=(hbd g o s e).1;show g≠w.heap.size+1+1;omega
     have hE5:Ext w w5:=by
      rw [hw5];exact Ext.drew (Ext.set (Ext.set hEw4 (show w.heap.size≤w.heap.size+1+1 by omega) _) (show w.heap.size≤w.heap.size+1+1 by omega) _)
     have k0:w5.cell? ⟨w.heap.size+1+1,0,none⟩=some (.int .i64 C):=by rw [hw5];simp [go_sem,hf4,hf5]
     have k1:w5.cell? ⟨w.heap.size+1+1,1,none⟩=some (.slice A3 zs.length c3):=by rw [hw5];simp [go_sem,hf4,hf5]
     have kf:∀ o,w5.frozen? ⟨w.heap.size+1+1,o,none⟩=false:=by intro o;rw [hw5];simp [go_sem,hf6]
     have H5:=Zh h5;clear hw5 h5 hbd hf0 hf1 hf4 hf5 hf6 h30 h31 hr4 hr5 hr6;go_wp2_with fail;refine bodyPost_ret (v:=.tuple #[.agg #[.int .i64 C,.slice A3 zs.length c3],.bool (decide (C≤1000000000000))]) (by simp [results,Tryz.results117,go_sem,k0,k1,kf]) rfl ?_;have hnb:decide (C≤1000000000000)=true↔¬ Big (addP a b m):=by
      unfold Big;rw [decide_eq_true_eq,HCF.out,← HZ.out];constructor
      .rintro h (h2 | ⟨x,hx,h2⟩)
       .omega
       .obtain ⟨t,ht,rfl⟩:=List.mem_iff_getElem.1 hx;have:=hall.out t _ Zo (List.getElem?_eq_getElem ht);omega
      .intro h;have:¬ 1000000000000 < (addP a b m).c:=fun h2=>h (.inl h2);omega
     exact ⟨C,A3,zs.length,c3,zs,_,rfl,H5.out,hnb,fun _=>⟨HCF.out,HZ.out⟩,hE5⟩
end Go.Proofs.YtiblbnkpjmmjaaaGreat
namespace Go.Proofs.YtiblbnkpjmmjaaaGreat
theorem sumTo_congr {p:Pl} {fs gs:List Pl}:∀ {k:Nat},(∀ j,j < k→fs.getD j ⟨0,[]⟩=gs.getD j ⟨0,[]⟩)→sumTo p fs k=sumTo p gs k
 | 0,_=>rfl
 | k+1,h=>by
  show addP _ _ _=addP _ _ _;rw [sumTo_congr (k:=k) (fun j hj=>h j Zo),h k Zo]
theorem sumTo_snoc {p:Pl} {fs:List Pl} {f:Pl} {k:Nat} (hk:fs.length=k):sumTo p (fs++[f]) (k+1)=addP (sumTo p fs k) f (p.cf.getD k 0):=by
 show addP _ _ _=_;have h1:sumTo p (fs++[f]) k=sumTo p fs k:=sumTo_congr fun j hj=>by
  rw [List.getD_eq_getElem?_getD,List.getD_eq_getElem?_getD,List.getElem?_append_left Zo]
 have h2:(fs++[f]).getD k ⟨0,[]⟩=f:=by
  rw [List.getD_eq_getElem?_getD,List.getElem?_append_right Zo,hk,Nat.sub_self];rfl
 rw [h1,h2]
theorem formL_get {ps:List Pl}:∀ {us:List Tm} {gs:List Pl},formL ps us=some gs→gs.length=us.length∧∀ (j:Nat) (a:Tm),us[j]?=some a→∃ g,gs[j]?=some g∧form ps a=some g
 | [],gs,h=>by
  rw [formL_nil] at h;cases h;exact ⟨rfl,fun j a h=>by simp at h⟩
 | b :: us,gs,h=>by
  rw [formL_cons] at h;obtain ⟨f,h1,h2⟩:=Option.bind_eq_some_iff.1 h;obtain ⟨hs,h4,rfl⟩:=Option.map_eq_some_iff.1 h2;obtain ⟨h5,h6⟩:=formL_get h4;refine ⟨by simp [h5],fun j a ha=>?_⟩;cases j with
  | zero=>simp at ha;subst ha;exact ⟨f,rfl,h1⟩
  | succ j=>exact h6 j a (by simpa using ha)
def FirstF (ps:List Pl) (us:List Tm) (fs:List Pl) (k:Nat):Prop:=fs.length=k∧∀ (j:Nat) (a:Tm) (f:Pl),us[j]?=some a→fs[j]?=some f→form ps a=some f
theorem FirstF.zero (ps:List Pl) (us:List Tm):FirstF ps us [] 0:=⟨rfl,fun j a f _ h=>by simp at h⟩
theorem FirstF.push {ps:List Pl} {us:List Tm} {fs:List Pl} {k:Nat} {a:Tm} {f:Pl} (h:FirstF ps us fs k) (ha:us[k]?=some a) (hf:form ps a=some f):FirstF ps us (fs++[f]) (k+1):=by
 refine ⟨by simp [h.1],fun j b g h1 h2=>?_⟩;rcases Nat.lt_or_ge j k with hj | hj
 .exact h.2 j b g h1 (by rwa [List.getElem?_append_left (by have:=h.1;omega)] at h2)
 .have hjk:j=k:=by have:=(List.getElem?_eq_some_iff.1 h2).1;simp [h.1] at this;omega
  subst hjk;rw [List.getElem?_append_right (by have:=h.1;omega),h.1,Nat.sub_self] at h2;rw [ha] at h1;cases h1;cases h2;exact hf
theorem FirstF.all {ps:List Pl} {us:List Tm} {fs:List Pl} (h:FirstF ps us fs us.length):formL ps us=some fs:=formL_some h.1 h.2
theorem FirstF.parts {ps:List Pl} {us:List Tm} {fs:List Pl} {k:Nat} {p:Pl} (h:FirstF ps us fs k) (hk:k≤us.length) (hp:(0≤p.c∧p.c≤9)∧∀ x∈p.cf,0≤x∧x≤9) (h3:us.length≤3) (hfm:∀ a∈us,∀ f,form ps a=some f→Fm f):Parts p fs:=by
 refine ⟨hp.1,hp.2,by have:=h.1;omega,fun f hf=>?_⟩;obtain ⟨j,hj,rfl⟩:=List.mem_iff_getElem.1 hf;have hju:j < us.length:=by have:=h.1;omega
 exact hfm us[j] (List.getElem_mem hju) _ (h.2 j _ _ (List.getElem?_eq_getElem hju) (List.getElem?_eq_getElem hj))
theorem big_early {ps:List Pl} {us:List Tm} {fs:List Pl} {k:Nat} {p:Pl} (h:FirstF ps us fs k) (hk:k≤us.length) (hp:(0≤p.c∧p.c≤9)∧∀ x∈p.cf,0≤x∧x≤9) (h3:us.length≤3) (hfm:∀ a∈us,∀ f,form ps a=some f→Fm f)
 (hb:Big (sumTo p fs k)):(formL ps us).bind (fun gs=>appP p gs)=none:=by
 cases hg:formL ps us with
 | none=>rfl
 | some gs=>
  obtain ⟨h1,h2⟩:=formL_get hg;have hF:FirstF ps us gs us.length:=⟨h1,fun j a f ha hf=>by
   obtain ⟨g,h4,h5⟩:=h2 j a ha;rw [h4] at hf;cases hf;exact h5⟩
  have he:sumTo p fs k=sumTo p gs k:=sumTo_congr fun j hj=>by
   have hju:j < us.length:=by omega
   obtain ⟨g,h4,h5⟩:=h2 j us[j] (List.getElem?_eq_getElem hju);have hjf:j < fs.length:=by have:=h.1;omega
   have:=h.2 j us[j] fs[j] (List.getElem?_eq_getElem hju) (List.getElem?_eq_getElem hjf);rw [h5] at this;cases this;rw [List.getD_eq_getElem?_getD,List.getD_eq_getElem?_getD,h4,List.getElem?_eq_getElem hjf]
  rw [he] at hb;show appP p gs=none;unfold appP;rw [if_pos (Big.mono (hF.parts (Nat.le_refl _) hp h3 hfm) Zo hb)]
theorem app_sum {p:Pl} {fs:List Pl} {k:Nat} (hk:fs.length=k) (hb:¬ Big (sumTo p fs k)):appP p fs=some (sumTo p fs k):=by
 subst hk;unfold appP;rw [if_neg hb]
theorem not_big_start {p:Pl} {fs:List Pl} (hp:0≤p.c∧p.c≤9):¬ Big (sumTo p fs 0):=by
 rintro (h | ⟨x,hx,_⟩)
 .simp [sumTo] at h;omega
 .simp [sumTo] at hx

