/- -/
import Derived.Test.YtiblbnkpjmmjaaaGreatQ30
set_option maxRecDepth 100000
set_option maxHeartbeats 16000000
set_option linter.all false
namespace Go.Proofs.YtiblbnkpjmmjaaaGreat
theorem x0q31 {p:Prop} (h:p:=by rw [HSUB.out];exact HG.out.1):p:=h
open Go.RowKit
theorem heap2s (w:World) (o1 o2:Obj):((w.alloc o1).alloc o2).heap[w.heap.size+1]?=some o2:=by have:=heap_alloc_new (w.alloc o1) o2;rwa [World.size_alloc] at this
theorem wp_make_full {P:Program} {w:World} {o:Oper} {a:Act} {K:Act→World→Prop} {Q:Exit→Act→World→Prop} (l c:Operand) (t:TypeId) (hop:o.op=Op.makeSlice t l c)
 (base:Nat) (e:TypeId) (i:TypeInfo) (z:Value) (size:Nat) (h1:P.underlying t=some (.slice e)) (h2:P.info? e=some i) (h3:i.zero=some z) (h4:i.size=size)
 (kl kc:IntKind) (L C:Int) (n:Nat) (hl:a.eval l=.int kl L) (hc:a.eval c=.int kc C) (hL:L=(n:Int)) (hC:C=(n:Int)) (b2:i.bytes * n≤281474976710656) (b3:n≤maxLen) (b4:base≤w.heap.size)
 (hK:∀ w',w'.ownsRow base e size (.slice (some ⟨w.heap.size,0,none⟩) n n) n (madeCells z.cells (n * size)).toList→w.grownBy w' none→K (a.put o.dst (.slice (some ⟨w.heap.size,0,none⟩) n n)) w'):o.wp P a w K Q:=by
 obtain ⟨w',hrun,r1,r2⟩:=run_make_full (P:=P) w base t e i z size h1 h2 h3 h4 kl kc n b2 b3 b4;subst hL;subst hC;unfold Oper.wp;simp [execOp,hop,hl,hc,hrun,Result.andThen];exact hK w' r1 r2
section
variable {w wr:World} {g:Nat} {c0 c1 c2 c3:Value} {ar ss tt:List Int} {m kS kT kW:Nat} {As:Option Addr} {cs:Nat} {At:Option Addr} {ct:Nat} {Aw:Option Addr} {cw:Nat} {vs us ws:List Value}
theorem MkSt.own (h:MkSt w wr g c0 c1 c2 c3 ar ss tt m kS kT kW As cs At ct Aw cw vs us ws) :
 (∀ b,(Value.slice As kS cs).ownBlock=some b→w.heap.size≤b∧b≠w.heap.size∧b≠g)∧(∀ b,(Value.slice At kT ct).ownBlock=some b→w.heap.size≤b∧b≠w.heap.size∧b≠g)∧∀ b,(Value.slice Aw kW cw).ownBlock=some b→w.heap.size≤b∧b≠w.heap.size∧b≠g:=by
 refine ⟨fun b hb=>?_,fun b hb=>?_,fun b hb=>?_⟩
 .have e:=ownsRow_blk h.oS hb;subst e;obtain ⟨h1,cur,hh⟩:=ownsRow_atZ h.oS;exact ⟨h1,ty_ne hh h.sg (by decide),ty_ne hh h.bx (by decide)⟩
 .have e:=ownsRow_blk h.oT hb;subst e;obtain ⟨h1,cur,hh⟩:=ownsRow_atZ h.oT;exact ⟨h1,ty_ne hh h.sg (by decide),ty_ne hh h.bx (by decide)⟩
 .have e:=ownsRow_blk h.oW hb;subst e;obtain ⟨h1,cur,hh⟩:=ownsRow_atZ h.oW;exact ⟨h1,ty_ne hh h.sg (by decide),ty_ne hh h.bx (by decide)⟩
end
theorem fin_row {w:World} {B b m:Nat} (h:w.ownsRow B 2 1 (.slice (some ⟨b,0,none⟩) m m) m (madeCells #[Value.int .i64 0] (m * 1)).toList):FinR w b m:=by
 rcases h.2 with ⟨h2,_⟩ | ⟨g',cap,cur,hv,hg,hh,h1,h2,h3,h4⟩
 .cases h2
 .cases hv;refine ⟨cur,hh,fun j hj=>?_⟩;have e:(cur.toList.take (m * 1))[j]?=some (.int .i64 0):=by
   rw [h4,Nat.mul_one,madeInts,List.getElem?_map,List.getElem?_replicate];simp [hj]
  rw [List.getElem?_take] at e;split at e
  .rw [← Array.getElem?_toList];exact e
  .cases e
theorem intss_info:(Tryz.prog.info? 135).map (fun i=>(i.zero,i.size,i.bytes))=some (some (.slice none 0 0),1,24):=Zk
theorem int64ss_info:(Tryz.prog.info? 27).map (fun i=>(i.zero,i.size,i.bytes))=some (some (.slice none 0 0),1,24):=Zk
theorem rowsFin {w:World} {B m k:Nat} {ws:List Value} (h:RowL w B m ws) (hk:ws.length=k):∃ row:Nat→Nat,∀ i,i < k→ws[i]?=some (.slice (some ⟨row i,0,none⟩) m m)∧B≤row i∧FinR w (row i) m:=by
 refine ⟨fun i=>match ws[i]? with | some (.slice (some a) _ _)=>a.block | _=>0,fun i hi=>?_⟩;have e:ws[i]?=some (ws[i]'Zo):=List.getElem?_eq_getElem Zo;obtain ⟨b,e1,hb,hf⟩:=h.1 i _ e;rw [e1] at e;simp only [e];exact ⟨trivial,hb,hf⟩
section
variable {w wr:World} {g:Nat} {ar rk s t:List Int} {ab ao n c rb ro rc sb so k l tb tq m d:Nat} {As:Option Addr} {cs:Nat} {At:Option Addr} {ct:Nat} {Aw:Option Addr} {cw:Nat} {vs us ws:List Value}
theorem MkSt.made (h:MkSt w wr g (.slice (some ⟨ab,ao,none⟩) n c) (.slice (some ⟨rb,ro,none⟩) n rc) (.slice (some ⟨sb,so,none⟩) k l) (.slice (some ⟨tb,tq,none⟩) m d) ar s t m k m k As cs At ct Aw cw vs us ws)
 (hs:SigP ar) (hrl:rk.length=ar.length) (ht:TermP ar t) (hss:TermP ar s) (ha:RI w (some ⟨ab,ao,none⟩) n ar) (hr:RI w (some ⟨rb,ro,none⟩) n rk) (hB:RI w (some ⟨tb,tq,none⟩) m t) (hD:RI w (some ⟨sb,so,none⟩) k s)
 (hmd:m≤d∧d≤9223372036854775807) (hkl:k≤l∧l≤9223372036854775807) (hab:ab < w.heap.size) (hrb:rb < w.heap.size) (htb:tb < w.heap.size) (hsb:sb < w.heap.size) :
 ∃ Y:SC,Y.g=g∧Y.P∧Y.H wr (fun _ _=>0)∧(Y.ar=ar∧Y.rk=rk∧Y.s=s∧Y.t=t)∧∀ i,i < Y.k→w.heap.size≤Y.row i:=by
 have hm1:0 < m:=by rw [← hB.len];exact ht.2.1.1
 have hk1:0 < k:=by rw [← hD.len];exact hss.2.1.1
 obtain ⟨pa,pc,e1,_,_⟩:=World.ownsRow.form h.oS hk1;cases e1;obtain ⟨qa,qc,e2,_,_⟩:=World.ownsRow.form h.oT hm1;cases e2;obtain ⟨wb,wc,e3,_,_⟩:=World.ownsRow.form h.oW hk1;cases e3;have hvl:vs.length=k:=by have:=h.oS.1;omega
 have hul:us.length=m:=by have:=h.oT.1;omega
 have hwl:ws.length=k:=by have:=h.oW.1;omega
 obtain ⟨row,hrow⟩:=rowsFin h.fW hwl;obtain ⟨hpB,cp,hpa⟩:=ownsRow_atZ h.oS;obtain ⟨hqB,cq,hqa⟩:=ownsRow_atZ h.oT;obtain ⟨hwB,cw',hwa⟩:=ownsRow_atZ h.oW;have args:∀ (tt:List Int) (pa kk:Nat) (A:Option Addr) (cc:Nat) (vs:List Value),TermP ar tt→tt.length=kk→vs.length=kk→wr.ownsRow w.heap.size 135 1 (.slice (some ⟨pa,0,none⟩) kk cc) kk vs→ArgL wr ar tt vs→ArgsIn wr ar tt pa row k:=by
  intro tt pa kk A cc vs htt htl hvl ho hf i hi;have e:vs[i]?=some (vs[i]'Zo):=List.getElem?_eq_getElem Zo;obtain ⟨A',c',e4,hfn⟩:=hf i _ e;have hl3:(subT ar tt i).as.length≤4194304:=by
   obtain ⟨h1,_⟩:=subT_ok htt hi;cases hsu:subT ar tt i with
   | node x us=>rw [hsu] at h1;have:=arI_le hs (Ok_node.1 h1).1;show us.length≤_;omega
  refine ⟨A',c',?_,?_,fun b o s' e5 r hr'=>?_⟩
  .have:=World.ownsRow.cellAt ho i Zo;rw [this,e,e4]
  .have:=hfn.ri (by rw [starts_len];exact hl3);rw [starts_len] at this;exact this
  .rcases hfn with ⟨h0,_⟩ | ⟨b',cs',e6,hh,_⟩
   .rw [h0] at e5;cases e5
   .rw [e6] at e5;cases e5;obtain ⟨cr,hhr,_⟩:=(hrow r hr').2.2;exact ty_ne hh hhr (by decide)
 refine ⟨⟨ab,ao,n,c,rb,ro,rc,sb,so,k,l,tb,tq,m,d,g,pa,cs,qa,ct,wb,cw,row,ar,rk,s,t⟩,rfl,⟨hs,ht,hss,hrl,hmd,hkl⟩,?_,⟨rfl,rfl,rfl,rfl⟩,fun i hi=>(hrow i hi).2.1⟩;have hcell:=fun o=>cell_of_row wr g o _ _ (0,0) h.bx;refine ⟨ha.ext h.ex,hr.ext h.ex,hD.ext h.ex,hB.ext h.ex,(hcell 0).trans rfl,(hcell 1).trans rfl,(hcell 2).trans rfl,(hcell 3).trans rfl,(hcell 4).trans rfl,(hcell 5).trans rfl,(hcell 6).trans rfl,?_,?_,fun i hi=>?_,fun i j hi hj=>?_,fun i j hi=>?_,fun i hi=>?_,fun i j hi hj e=>?_,fun i hi=>?_⟩
 .exact args s pa k (some ⟨pa,0,none⟩) cs vs hss hD.len hvl h.oS h.fS
 .exact args t qa m (some ⟨qa,0,none⟩) ct us ht hB.len hul h.oT h.fT
 .have:=World.ownsRow.cellAt h.oW i (by have:i < k:=hi;omega);show wr.cell? ⟨wb,i,none⟩=_;rw [this,(hrow i hi).1]
 .obtain ⟨cr,hhr,hc⟩:=(hrow i hi).2.2;show wr.cell? ⟨row i,j,none⟩=_;rw [cell_of_row wr _ _ _ _ (0,0) hhr];exact hc j hj
 .obtain ⟨cr,hhr,_⟩:=(hrow i hi).2.2;exact frozen_of_row wr _ _ _ _ hhr
 .exact (hrow i hi).2.2.lt
 .have h1:=(hrow i hi).1;have h2:=(hrow j hj).1;have e':row i=row j:=e;rw [← e'] at h2;exact h.fW.2 i j (row i) h1 h2
 .obtain ⟨_,hb,cr,hhr,_⟩:=hrow i hi;exact ⟨by show row i≠ab;omega,by show row i≠rb;omega,by show row i≠sb;omega,by show row i≠tb;omega,ty_ne hhr h.bx (by decide),ty_ne hhr hpa (by decide),ty_ne hhr hqa (by decide),ty_ne hhr hwa (by decide)⟩
end
def Made (w:World) (ar rk s t:List Int) (e:Ending) (w':World):Prop:=∃ Y:SC,e=.returned (.pointer (some ⟨Y.g,0,none⟩))∧Y.P∧Y.H w' (fun _ _=>0)∧(Y.ar=ar∧Y.rk=rk∧Y.s=s∧Y.t=t)∧(∀ i,i < Y.k→w.heap.size≤Y.row i)∧Ext w w'
theorem mq31 {p:Prop} (h:p:=by simp only [intOf];omega):p:=h
theorem z15q31 {p:Prop} (h:p:=by (intro w' hE';(try dsimp only at hE');obtain ⟨hE0,hcg⟩:=hE';go_simp;try with_reducible rfl)):p:=h
theorem c_l13Make {ar rk s t:List Int} {A:Option Addr} {n c:Nat} {R:Option Addr} {rn rc:Nat} {B:Option Addr} {m d:Nat} {D:Option Addr} {k l:Nat} {w:World} (hs:SigP ar) (hrl:rk.length=ar.length) (ht:TermP ar t) (hss:TermP ar s)
 (ha:RI w A n ar) (hr:RI w R rn rk) (hB:RI w B m t) (hD:RI w D k s) (hmd:m≤d∧d≤9223372036854775807) (hkl:k≤l∧l≤9223372036854775807) :
 Calls Tryz.prog 75 #[.agg #[.slice A n c],.slice R rn rc,.slice D k l,.slice B m d] w (Made w ar rk s t):=by
 have hn1:0 < n:=by rw [← ha.len];exact hs.1
 obtain rfl:n=rn:=by rw [← ha.len,← hr.len,hrl]
 have hm1:0 < m:=by rw [← hB.len];exact ht.2.1.1
 have hk1:0 < k:=by rw [← hD.len];exact hss.2.1.1
 have hm60:m≤60:=by rw [← hB.len];exact ht.2.1.2
 have hk60:k≤60:=by rw [← hD.len];exact hss.2.1.2
 obtain ⟨ab,ao,_,rfl,_,hca⟩:=RI.at_ ha hn1;obtain ⟨rb,ro,_,rfl,_,hcr⟩:=RI.at_ hr hn1;obtain ⟨tb,tq,_,rfl,_,hct⟩:=RI.at_ hB hm1;obtain ⟨sb,so,_,rfl,_,hcs⟩:=RI.at_ hD hk1;have hab:ab < w.heap.size:=World.block_lt_of_cell? w _ hca;have hrb:rb < w.heap.size:=World.block_lt_of_cell? w _ hcr;have htb:tb < w.heap.size:=World.block_lt_of_cell? w _ hct;have hsb:sb < w.heap.size:=World.block_lt_of_cell? w _ hcs;obtain ⟨i0,h0i,h0z,h0s,h0b⟩:=info_parts int64_info;obtain ⟨i1,h1i,h1z,h1s,h1b⟩:=info_parts intss_info;obtain ⟨i2,h2i,h2z,h2s,h2b⟩:=info_parts int64ss_info;have HA:=Zh ha;have HR:=Zh hr;have HB:=Zh hB;have HD:=Zh hD;have HSG:=Zh hs;have HTT:=Zh ht;have HTS:=Zh hss;have HP0:=Zh (And.intro hrl (And.intro hmd hkl));clear ha hr hB hD hca hcr hct hcs hs hrl ht hss hmd hkl;go_enter Tryz.func75,Tryz.ntmps75;go_wp2_with fail;obtain ⟨wo,hwo⟩:∃ wo,wo=(w.alloc (.cells #[.slice (some ⟨ab,ao,none⟩) n c] 29)).alloc (.cells #[.slice (some ⟨ab,ao,none⟩) n c,.slice (some ⟨rb,ro,none⟩) n rc,.slice (some ⟨sb,so,none⟩) k l,.slice (some ⟨tb,tq,none⟩) m d,.slice none 0 0,.slice none 0 0,.slice none 0 0] 113):=⟨_,rfl⟩
 have HM0:=Zh (show MkSt w wo (w.heap.size+1) (.slice (some ⟨ab,ao,none⟩) n c) (.slice (some ⟨rb,ro,none⟩) n rc) (.slice (some ⟨sb,so,none⟩) k l) (.slice (some ⟨tb,tq,none⟩) m d) ar s t m 0 0 0 none 0 none 0 none 0 [] [] [] from
  ⟨by rw [hwo];exact extX,Zo,by rw [hwo];exact heap2s _ _ _,by
   rw [hwo];exact ((Ext.alloc (Ext.refl _) _).block _ (by simp [go_sem])).trans (heap_alloc_new w _),World.ownsRow_nil _ _ _ _,World.ownsRow_nil _ _ _ _,World.ownsRow_nil _ _ _ _,(fun b c e _=>by cases e),(fun i v h=>by simp at h),(fun i v h=>by simp at h),⟨fun i v h=>by simp at h,fun i j b h=>by simp at h⟩⟩)
 rw [← hwo];clear hwo;go_loopw [10] (fun iv wr=>∃ q:Nat,iv=.int .i64 q∧q≤k∧Hid (∃ As cs Aw cw vs ws,MkSt w wr (w.heap.size+1) (.slice (some ⟨ab,ao,none⟩) n c) (.slice (some ⟨rb,ro,none⟩) n rc) (.slice (some ⟨sb,so,none⟩) k l) (.slice (some ⟨tb,tq,none⟩) m d) ar s t m q 0 q As cs none 0 Aw cw vs [] ws)) (fun iv _=>k - (intOf iv).toNat)
 case atStart=>exact ⟨0,rfl,Nat.zero_le _,Zh ⟨_,_,_,_,_,_,HM0.out⟩⟩
 case round=>
  obtain ⟨q,rfl,hq,hM⟩:=hrel;obtain ⟨As,cs,Aw,cw,vs,ws,hst⟩:=hM.out;clear hM;have HST:=Zh hst;have hEr:=hst.ex;have rg0:wr.cell? ⟨w.heap.size,0,none⟩=some (.slice (some ⟨ab,ao,none⟩) n c):=by rw [cell_of_row wr _ _ _ _ (0,0) hst.sg];rfl
  have hszr:=hEr.size;clear hst;by_cases hlt:q < k
  .have hqk:(q:Int) < (k:Int):=by omega
   obtain ⟨⟨y,ys⟩,hsub⟩:∃ u,subT ar s q=u:=⟨_,rfl⟩;obtain ⟨hu,rest,hud⟩:=subT_ok HTS.out (show q < s.length by rw [HD.out.len];exact hlt);rw [hsub] at hu hud;have HU:=Zh hu;have HUD:=Zh hud;have HSUB:=Zh (show (subT ar s q).as=ys by rw [hsub];rfl);have HOWN:=Zh HST.out.own.1;have rc4:=Ext.keep (Ext.refl wr) (show wr.cell? ⟨w.heap.size+1,4,none⟩=some (.slice As q cs) by rw [cell_of_row wr _ _ _ _ (0,0) HST.out.bx];rfl);have HSTB:Hid (∀ {W:World},Ext wr W→W.cell? ⟨w.heap.size+1,4,none⟩=some (.slice As q cs)):=Zh (fun hE=>Ext.keep hE rc4);have HSTL:Hid (∀ {W:World},Ext wr W→w.heap.size+1 < W.heap.size):=Zh (fun hE=>Nat.lt_of_lt_of_le HST.out.glt hE.size);have HFZ:Hid (∀ (W:World),Ext wr W→W.frozen? ⟨w.heap.size+1,4,none⟩=false):=Zh (fun W hE=>frozen_of_row W _ _ _ _ (HST.out.ext hE).bx);have HNB:Hid (∀ x:Nat,some (w.heap.size+1)≠(Value.slice As q cs).ownBlock):=Zh (fun _ e=>(HOWN.out _ e.symm).2.2 rfl);clear hsub hu hud;go_wp2_with fail;refine wp_only (R:=fun (a0:Act) (a8:Act) (w9:World)=>∃ (A8:Option Addr) (c8 q8 g6 cap:Nat),a8=(((((((((((((a0.put (some 24) (.pointer (some ⟨w.heap.size+1,0,none⟩))).put (some 25) (.pointer (some ⟨w.heap.size+1,0,none⟩))).put (some 26) (.pointer (some ⟨w.heap.size+1,0,none⟩))).put (some 27) (.pointer (some ⟨w.heap.size+1,4,none⟩))).put (some 28) (.slice As q cs)).put (some 29) (.agg #[.slice (some ⟨ab,ao,none⟩) n c])).put (some 30) (.slice (some ⟨sb,so,none⟩) k l)).put (some 31) (.int .i64 (q:Int))).put (some 32) (.slice A8 ys.length c8)).put (some 33) (.slice (some ⟨q8,0,none⟩) 1 1)).put (some 34) (.slice (some ⟨g6,0,none⟩) (q+1) cap)).put (some 35) (.pointer (some ⟨w.heap.size+1,0,none⟩))).put (some 36) (.pointer (some ⟨w.heap.size+1,4,none⟩)))∧MkSt w w9 (w.heap.size+1) (.slice (some ⟨ab,ao,none⟩) n c) (.slice (some ⟨rb,ro,none⟩) n rc) (.slice (some ⟨sb,so,none⟩) k l) (.slice (some ⟨tb,tq,none⟩) m d) ar s t m (q+1) 0 q (some ⟨g6,0,none⟩) cap none 0 Aw cw (vs++[.slice A8 (subT ar s q).as.length c8]) [] ws) ?_ (fun a8 w8 hR=>?_)
   .refine wp_region_held_drew (S:=(fun w'=>Ext w w'∧w'.cell? ⟨w.heap.size,0,none⟩=some (.slice (some ⟨ab,ao,none⟩) n c))) Zk (⟨Ext.drew hEr,rg0⟩) (fun hH=>?_);refine Z3 0 (.pointer (some ⟨w.heap.size+1,0,none⟩)) 24 hH ?_ ?_
    .exact z15q31
    refine Z3 1 (.pointer (some ⟨w.heap.size+1,0,none⟩)) 25 hH ?_ ?_
    .exact z15q31
    refine Z3 2 (.pointer (some ⟨w.heap.size+1,0,none⟩)) 26 hH ?_ ?_
    .exact z15q31
    refine Z3 3 (.pointer (some ⟨w.heap.size+1,4,none⟩)) 27 hH ?_ ?_
    .exact z15q31
    refine Z3 5 (.agg #[.slice (some ⟨ab,ao,none⟩) n c]) 29 hH ?_ ?_
    .exact z15q31
    refine Z3 6 (.slice (some ⟨sb,so,none⟩) k l) 30 hH ?_ ?_
    .exact z15q31
    refine Z3 7 (.int .i64 (q:Int)) 31 hH ?_ ?_
    .exact z15q31
    refine wpAnyH_ready (rs:=[4,8]) Zk (by simp) ?_;refine AllReadyH.cons rfl (fun K hK=>?_) (AllReadyH.cons rfl (fun K hK=>?_) (AllReadyH.nil))
    .rw [if_pos Zr];go_wp2_with fail;refine hK.out _ _ (⟨hH.1,hH.2⟩) (fun hH9=>?_);clear hK hH;rename _=>hH;try simp only [Act.put,Zl]
     refine Z4 8 fun K hK=>?_;go_wp2_with fail
     (with_reducible refine (c_l13Args (RdSig.mk (RI.ext HA.out hH.1)) (RdI.mk (RI.ext HD.out hH.1)) HSG.out HU.out HUD.out).mono ?_);rintro e w9 ⟨A8,c8,rfl,hO8,hE9⟩;refine hK.out _ _ (⟨Ext.trans hH.1 hE9,Ext.keep hE9 hH.2⟩) (fun hH9=>?_);clear hK hH;rename _=>hH;try simp only [Act.put,Zl]
     refine Z4 9 fun K hK=>?_;go_wp2_with fail;refine hK.out _ _ (⟨hH.1.alloc _,Ext.keep (Ext.alloc (Ext.refl _) _) hH.2⟩) (fun hH9=>?_);clear hK hH;rename _=>hH;try simp only [Act.put,Zl]
     refine Z4 10 fun K hK=>?_;have hEn:Ext wr (w9.alloc (.cells #[.slice A8 ys.length c8] 135)):=Ext.alloc (Ext.trans (Ext.drew (Ext.refl wr)) hE9) _;have hszn:=hH.1.size;refine wp_append_lies _ (.tmp 28) (.tmp 33) 110 rfl w.heap.size 135 i1 (.slice none 0 0) 1 24 Tryz.underlying110 h1i h1z h1s h1b rfl (by decide) _ _ vs rfl (own_ext HST.out.oS hEn) ⟨w9.heap.size,0,none⟩ 1 1 [.slice A8 ys.length c8] rfl rfl (one_cells _ _ _) (one_slice _ _ _) (by decide) (by unfold maxLen;omega) Zo hszn _ rfl (fun g6 cap wx hown hg hat hlt=>?_);have HG:=Zh (And.intro hown (And.intro hg (And.intro hat hlt)));have hgx:=hg.cell (HSTB.out hEn) (HNB.out 0) ;have hgf:=hg.frozen_far ⟨w.heap.size+1,4,none⟩ (HSTL.out hEn) (HNB.out 0);refine hK.out _ _ (⟨Ext.grown hH.1 hg (fun b hb=>(HOWN.out b hb).1),hg.cell hH.2 (fun e=>(HOWN.out _ e.symm).2.1 rfl)⟩) (fun hH9=>?_);clear hK hH;rename _=>hH;try simp only [Act.put,Zl]
     refine Z3 11 (.pointer (some ⟨w.heap.size+1,0,none⟩)) 35 hH ?_ ?_
     .exact z15q31
     refine Z3 12 (.pointer (some ⟨w.heap.size+1,4,none⟩)) 36 hH ?_ ?_
     .exact z15q31
     refine Z4 13 fun K hK=>?_;have hz13:=hgf.trans (HFZ.out _ hEn);clear hgf;go_wp2_with fail;refine hK.out _ _ (⟨hH.1.set (p:=⟨w.heap.size+1,4,none⟩) (Nat.le_succ _) (.slice (some ⟨g6,0,none⟩) (q+1) cap),(show (wx.setCell ⟨w.heap.size+1,4,none⟩ (.slice (some ⟨g6,0,none⟩) (q+1) cap)).cell? ⟨w.heap.size,0,none⟩=_ from by rw [World.cell?_setCell_other _ _ _ _ (by first | (simp;done) | (simp;omega))];exact hH.2)⟩) (fun hH9=>?_);clear hK hH;rename _=>hH;try simp only [Act.put,Zl]
     refine wpAnyH_done Zk ?_ _;exact ⟨A8,c8,w9.heap.size,g6,cap,rfl,(HST.out.ext hEn).pushS x0q31 HG.out.2.1 HG.out.2.2.1 HG.out.2.2.2 (by rw [HSUB.out];exact (hO8.fin).chg (ChgM.of_ext (Ext.alloc (Ext.refl _) _)))⟩
    .rw [if_pos Zr];go_wp2_with fail
     (with_reducible refine (c_l13Args (RdSig.mk (RI.ext HA.out hH.1)) (RdI.mk (RI.ext HD.out hH.1)) HSG.out HU.out HUD.out).mono ?_);rintro e w9 ⟨A8,c8,rfl,hO8,hE9⟩;refine hK.out _ _ (⟨Ext.trans hH.1 hE9,Ext.keep hE9 hH.2⟩) (fun hH9=>?_);clear hK hH;rename _=>hH;try simp only [Act.put,Zl]
     refine wpAnyH_ready (rs:=[4,9]) Zk (by simp) ?_;refine AllReadyH.cons rfl (fun K hK=>?_) (AllReadyH.cons rfl (fun K hK=>?_) (AllReadyH.nil))
     .rw [if_pos Zr];have hk4:=Ext.keep hE9 (show wr.drew.cell? _=_ from rc4);go_wp2_with fail;refine hK.out _ _ (⟨hH.1,hH.2⟩) (fun hH9=>?_);clear hK hH;rename _=>hH;try simp only [Act.put,Zl]
      refine Z4 9 fun K hK=>?_;go_wp2_with fail;refine hK.out _ _ (⟨hH.1.alloc _,Ext.keep (Ext.alloc (Ext.refl _) _) hH.2⟩) (fun hH9=>?_);clear hK hH;rename _=>hH;try simp only [Act.put,Zl]
      refine Z4 10 fun K hK=>?_;have hEn:Ext wr (w9.alloc (.cells #[.slice A8 ys.length c8] 135)):=Ext.alloc (Ext.trans (Ext.drew (Ext.refl wr)) hE9) _;have hszn:=hH.1.size;refine wp_append_lies _ (.tmp 28) (.tmp 33) 110 rfl w.heap.size 135 i1 (.slice none 0 0) 1 24 Tryz.underlying110 h1i h1z h1s h1b rfl (by decide) _ _ vs rfl (own_ext HST.out.oS hEn) ⟨w9.heap.size,0,none⟩ 1 1 [.slice A8 ys.length c8] rfl rfl (one_cells _ _ _) (one_slice _ _ _) (by decide) (by unfold maxLen;omega) Zo hszn _ rfl (fun g6 cap wx hown hg hat hlt=>?_);have HG:=Zh (And.intro hown (And.intro hg (And.intro hat hlt)));have hgx:=hg.cell (HSTB.out hEn) (HNB.out 0) ;have hgf:=hg.frozen_far ⟨w.heap.size+1,4,none⟩ (HSTL.out hEn) (HNB.out 0);refine hK.out _ _ (⟨Ext.grown hH.1 hg (fun b hb=>(HOWN.out b hb).1),hg.cell hH.2 (fun e=>(HOWN.out _ e.symm).2.1 rfl)⟩) (fun hH9=>?_);clear hK hH;rename _=>hH;try simp only [Act.put,Zl]
      refine Z3 11 (.pointer (some ⟨w.heap.size+1,0,none⟩)) 35 hH ?_ ?_
      .exact z15q31
      refine Z3 12 (.pointer (some ⟨w.heap.size+1,4,none⟩)) 36 hH ?_ ?_
      .exact z15q31
      refine Z4 13 fun K hK=>?_;have hz13:=hgf.trans (HFZ.out _ hEn);clear hgf;go_wp2_with fail;refine hK.out _ _ (⟨hH.1.set (p:=⟨w.heap.size+1,4,none⟩) (Nat.le_succ _) (.slice (some ⟨g6,0,none⟩) (q+1) cap),(show (wx.setCell ⟨w.heap.size+1,4,none⟩ (.slice (some ⟨g6,0,none⟩) (q+1) cap)).cell? ⟨w.heap.size,0,none⟩=_ from by rw [World.cell?_setCell_other _ _ _ _ (by first | (simp;done) | (simp;omega))];exact hH.2)⟩) (fun hH9=>?_);clear hK hH;rename _=>hH;try simp only [Act.put,Zl]
      refine wpAnyH_done Zk ?_ _;exact ⟨A8,c8,w9.heap.size,g6,cap,rfl,(HST.out.ext hEn).pushS x0q31 HG.out.2.1 HG.out.2.2.1 HG.out.2.2.2 (by rw [HSUB.out];exact (hO8.fin).chg (ChgM.of_ext (Ext.alloc (Ext.refl _) _)))⟩
     .rw [if_pos Zr];go_wp2_with fail;refine hK.out _ _ (⟨hH.1.alloc _,Ext.keep (Ext.alloc (Ext.refl _) _) hH.2⟩) (fun hH9=>?_);clear hK hH;rename _=>hH;try simp only [Act.put,Zl]
      refine Z4 4 fun K hK=>?_;have hk4:=Ext.keep (Ext.alloc hE9 (.cells #[.slice A8 ys.length c8] 135)) (show wr.drew.cell? _=_ from rc4);go_wp2_with fail;refine hK.out _ _ (⟨hH.1,hH.2⟩) (fun hH9=>?_);clear hK hH;rename _=>hH;try simp only [Act.put,Zl]
      refine Z4 10 fun K hK=>?_;have hEn:Ext wr (w9.alloc (.cells #[.slice A8 ys.length c8] 135)):=Ext.alloc (Ext.trans (Ext.drew (Ext.refl wr)) hE9) _;have hszn:=hH.1.size;refine wp_append_lies _ (.tmp 28) (.tmp 33) 110 rfl w.heap.size 135 i1 (.slice none 0 0) 1 24 Tryz.underlying110 h1i h1z h1s h1b rfl (by decide) _ _ vs rfl (own_ext HST.out.oS hEn) ⟨w9.heap.size,0,none⟩ 1 1 [.slice A8 ys.length c8] rfl rfl (one_cells _ _ _) (one_slice _ _ _) (by decide) (by unfold maxLen;omega) Zo hszn _ rfl (fun g6 cap wx hown hg hat hlt=>?_);have HG:=Zh (And.intro hown (And.intro hg (And.intro hat hlt)));have hgx:=hg.cell (HSTB.out hEn) (HNB.out 0) ;have hgf:=hg.frozen_far ⟨w.heap.size+1,4,none⟩ (HSTL.out hEn) (HNB.out 0);refine hK.out _ _ (⟨Ext.grown hH.1 hg (fun b hb=>(HOWN.out b hb).1),hg.cell hH.2 (fun e=>(HOWN.out _ e.symm).2.1 rfl)⟩) (fun hH9=>?_);clear hK hH;rename _=>hH;try simp only [Act.put,Zl]
      refine Z3 11 (.pointer (some ⟨w.heap.size+1,0,none⟩)) 35 hH ?_ ?_
      .exact z15q31
      refine Z3 12 (.pointer (some ⟨w.heap.size+1,4,none⟩)) 36 hH ?_ ?_
      .exact z15q31
      refine Z4 13 fun K hK=>?_;have hz13:=hgf.trans (HFZ.out _ hEn);clear hgf;go_wp2_with fail;refine hK.out _ _ (⟨hH.1.set (p:=⟨w.heap.size+1,4,none⟩) (Nat.le_succ _) (.slice (some ⟨g6,0,none⟩) (q+1) cap),(show (wx.setCell ⟨w.heap.size+1,4,none⟩ (.slice (some ⟨g6,0,none⟩) (q+1) cap)).cell? ⟨w.heap.size,0,none⟩=_ from by rw [World.cell?_setCell_other _ _ _ _ (by first | (simp;done) | (simp;omega))];exact hH.2)⟩) (fun hH9=>?_);clear hK hH;rename _=>hH;try simp only [Act.put,Zl]
      refine wpAnyH_done Zk ?_ _;exact ⟨A8,c8,w9.heap.size,g6,cap,rfl,(HST.out.ext hEn).pushS x0q31 HG.out.2.1 HG.out.2.2.1 HG.out.2.2.2 (by rw [HSUB.out];exact (hO8.fin).chg (ChgM.of_ext (Ext.alloc (Ext.refl _) _)))⟩
   obtain ⟨A8,c8,q8,g6,cap,ha,hM8⟩:=hR;simp only [Act.put,Zl] at ha;subst ha;have HST8:=Zh hM8;clear hM8 rc4 rg0;have hEr8:=HST8.out.ex;have rc6:w8.cell? ⟨w.heap.size+1,6,none⟩=some (.slice Aw q cw):=by rw [cell_of_row w8 _ _ _ _ (0,0) HST8.out.bx];rfl
   have HOWN8:=Zh HST8.out.own.2.2;have HSTB8:Hid (∀ {W:World},Ext w8 W→W.cell? ⟨w.heap.size+1,6,none⟩=some (.slice Aw q cw)):=Zh (fun hE=>Ext.keep hE rc6);have HSTL8:Hid (∀ {W:World},Ext w8 W→w.heap.size+1 < W.heap.size):=Zh (fun hE=>Nat.lt_of_lt_of_le HST8.out.glt hE.size);have HFZ8:Hid (∀ (W:World),Ext w8 W→W.frozen? ⟨w.heap.size+1,6,none⟩=false):=Zh (fun W hE=>frozen_of_row W _ _ _ _ (HST8.out.ext hE).bx);have HNB8:Hid (∀ x:Nat,some (w.heap.size+1)≠(Value.slice Aw q cw).ownBlock):=Zh (fun _ e=>(HOWN8.out _ e.symm).2.2 rfl);go_wp2_with fail;refine wp_only (R:=fun (a0:Act) (a8:Act) (w9:World)=>∃ (q8 g7 cap7:Nat),a8=((((((((((((a0.put (some 37) (.pointer (some ⟨w.heap.size+1,0,none⟩))).put (some 38) (.pointer (some ⟨w.heap.size+1,0,none⟩))).put (some 39) (.pointer (some ⟨w.heap.size+1,0,none⟩))).put (some 40) (.pointer (some ⟨w.heap.size+1,6,none⟩))).put (some 41) (.slice Aw q cw)).put (some 42) (.slice (some ⟨tb,tq,none⟩) m d)).put (some 43) (.int .i64 (m:Int))).put (some 44) (.slice (some ⟨w8.heap.size,0,none⟩) m m)).put (some 45) (.slice (some ⟨q8,0,none⟩) 1 1)).put (some 46) (.slice (some ⟨g7,0,none⟩) (q+1) cap7)).put (some 47) (.pointer (some ⟨w.heap.size+1,0,none⟩))).put (some 48) (.pointer (some ⟨w.heap.size+1,6,none⟩)))∧MkSt w w9 (w.heap.size+1) (.slice (some ⟨ab,ao,none⟩) n c) (.slice (some ⟨rb,ro,none⟩) n rc) (.slice (some ⟨sb,so,none⟩) k l) (.slice (some ⟨tb,tq,none⟩) m d) ar s t m (q+1) 0 (q+1) (some ⟨g6,0,none⟩) cap none 0 (some ⟨g7,0,none⟩) cap7 (vs++[.slice A8 (subT ar s q).as.length c8]) [] (ws++[.slice (some ⟨w8.heap.size,0,none⟩) m m])) ?_ (fun a8 w9 hR=>?_)
   .refine wp_region_held_drew (S:=(fun w'=>Ext w w')) Zk (Ext.drew hEr8) (fun hH=>?_);refine s6Z2 0 (.pointer (some ⟨w.heap.size+1,0,none⟩)) 37 1 (.pointer (some ⟨w.heap.size+1,0,none⟩)) 38 2 (.pointer (some ⟨w.heap.size+1,0,none⟩)) 39 3 (.pointer (some ⟨w.heap.size+1,6,none⟩)) 40 5 (.slice (some ⟨tb,tq,none⟩) m d) 42 6 (.int .i64 (m:Int)) 43 hH ?_;refine wpAnyH_ready (rs:=[4,7]) Zk (by simp) ?_;refine AllReadyH.cons rfl (fun K hK=>?_) (AllReadyH.cons rfl (fun K hK=>?_) (AllReadyH.nil))
    .rw [if_pos Zr];go_wp2_with fail;refine hK.out _ _ (hH) (fun hH9=>?_);clear hK hH;rename _=>hH;try simp only [Act.put,Zl]
     refine Z4 7 fun K hK=>?_;refine wp_make_full (.tmp 43) (.tmp 43) 27 rfl w.heap.size 2 i0 (.int .i64 0) 1 Tryz.underlying27 h0i h0z h0s .i64 .i64 _ _ m rfl rfl rfl rfl (by rw [h0b];omega) (by unfold maxLen;omega) hH.size (fun w9 hown9 hg9=>?_);have HMK:=Zh (And.intro hown9 hg9);clear hown9;refine hK.out _ _ (Ext.grown hH HMK.out.2 (fun b hb=>by cases hb)) (fun hH9=>?_);clear hK hH;rename _=>hH;try simp only [Act.put,Zl]
     refine Z4 8 fun K hK=>?_;go_wp2_with fail;refine hK.out _ _ (hH.alloc _) (fun hH9=>?_);clear hK hH;rename _=>hH;try simp only [Act.put,Zl]
     refine Z4 9 fun K hK=>?_;have hEn:Ext w8 (w9.alloc (.cells #[.slice (some ⟨w8.heap.size,0,none⟩) m m] 27)):=Ext.alloc (Ext.trans (Ext.drew (Ext.refl w8)) (Ext.grown (Ext.refl _) HMK.out.2 (fun b hb=>by cases hb))) _;have hszn:=hH.size;refine wp_append_lies _ (.tmp 41) (.tmp 45) 111 rfl w.heap.size 27 i2 (.slice none 0 0) 1 24 Tryz.underlying111 h2i h2z h2s h2b rfl (by decide) _ _ ws rfl (own_ext HST8.out.oW hEn) ⟨w9.heap.size,0,none⟩ 1 1 [.slice (some ⟨w8.heap.size,0,none⟩) m m] rfl rfl (one_cells _ _ _) (one_slice _ _ _) (by decide) (by unfold maxLen;omega) Zo hszn _ rfl (fun g6 cap wx hown hg hat hlt=>?_);have HG:=Zh (And.intro hown (And.intro hg (And.intro hat hlt)));have hgx:=hg.cell (HSTB8.out hEn) (HNB8.out 0) ;have hgf:=hg.frozen_far ⟨w.heap.size+1,6,none⟩ (HSTL8.out hEn) (HNB8.out 0);refine hK.out _ _ (Ext.grown hH hg (fun b hb=>(HOWN8.out b hb).1)) (fun hH9=>?_);clear hK hH;rename _=>hH;try simp only [Act.put,Zl]
     refine s2Z2 10 (.pointer (some ⟨w.heap.size+1,0,none⟩)) 47 11 (.pointer (some ⟨w.heap.size+1,6,none⟩)) 48 hH ?_;refine Z4 12 fun K hK=>?_;have hz13:=hgf.trans (HFZ8.out _ hEn);clear hgf;go_wp2_with fail;refine hK.out _ _ (hH.set (p:=⟨w.heap.size+1,6,none⟩) (Nat.le_succ _) (.slice (some ⟨g6,0,none⟩) (q+1) cap)) (fun hH9=>?_);clear hK hH;rename _=>hH;try simp only [Act.put,Zl]
     refine wpAnyH_done Zk ?_ _;exact ⟨w9.heap.size,g6,cap,rfl,(HST8.out.ext hEn).pushW HG.out.1 HG.out.2.1 HG.out.2.2.1 HG.out.2.2.2 HST8.out.ex.size ((fin_row HMK.out.1).chg (ChgM.of_ext (Ext.alloc (Ext.refl _) _))) (fun i e=>by obtain ⟨b,e1,_,hf⟩:=HST8.out.fW.1 i _ e;cases e1;exact absurd hf.lt (Nat.lt_irrefl _))⟩
    .rw [if_pos Zr];refine wp_make_full (.tmp 43) (.tmp 43) 27 rfl w.heap.size 2 i0 (.int .i64 0) 1 Tryz.underlying27 h0i h0z h0s .i64 .i64 _ _ m rfl rfl rfl rfl (by rw [h0b];omega) (by unfold maxLen;omega) hH.size (fun w9 hown9 hg9=>?_);have HMK:=Zh (And.intro hown9 hg9);clear hown9;refine hK.out _ _ (Ext.grown hH HMK.out.2 (fun b hb=>by cases hb)) (fun hH9=>?_);clear hK hH;rename _=>hH;try simp only [Act.put,Zl]
     refine wpAnyH_ready (rs:=[4,8]) Zk (by simp) ?_;refine AllReadyH.cons rfl (fun K hK=>?_) (AllReadyH.cons rfl (fun K hK=>?_) (AllReadyH.nil))
     .rw [if_pos Zr];have hk4:=Ext.keep (Ext.grown (Ext.refl _) HMK.out.2 (fun b hb=>by cases hb)) (show w8.drew.cell? _=_ from rc6);go_wp2_with fail;refine hK.out _ _ (hH) (fun hH9=>?_);clear hK hH;rename _=>hH;try simp only [Act.put,Zl]
      refine Z4 8 fun K hK=>?_;go_wp2_with fail;refine hK.out _ _ (hH.alloc _) (fun hH9=>?_);clear hK hH;rename _=>hH;try simp only [Act.put,Zl]
      refine Z4 9 fun K hK=>?_;have hEn:Ext w8 (w9.alloc (.cells #[.slice (some ⟨w8.heap.size,0,none⟩) m m] 27)):=Ext.alloc (Ext.trans (Ext.drew (Ext.refl w8)) (Ext.grown (Ext.refl _) HMK.out.2 (fun b hb=>by cases hb))) _;have hszn:=hH.size;refine wp_append_lies _ (.tmp 41) (.tmp 45) 111 rfl w.heap.size 27 i2 (.slice none 0 0) 1 24 Tryz.underlying111 h2i h2z h2s h2b rfl (by decide) _ _ ws rfl (own_ext HST8.out.oW hEn) ⟨w9.heap.size,0,none⟩ 1 1 [.slice (some ⟨w8.heap.size,0,none⟩) m m] rfl rfl (one_cells _ _ _) (one_slice _ _ _) (by decide) (by unfold maxLen;omega) Zo hszn _ rfl (fun g6 cap wx hown hg hat hlt=>?_);have HG:=Zh (And.intro hown (And.intro hg (And.intro hat hlt)));have hgx:=hg.cell (HSTB8.out hEn) (HNB8.out 0) ;have hgf:=hg.frozen_far ⟨w.heap.size+1,6,none⟩ (HSTL8.out hEn) (HNB8.out 0);refine hK.out _ _ (Ext.grown hH hg (fun b hb=>(HOWN8.out b hb).1)) (fun hH9=>?_);clear hK hH;rename _=>hH;try simp only [Act.put,Zl]
      refine s2Z2 10 (.pointer (some ⟨w.heap.size+1,0,none⟩)) 47 11 (.pointer (some ⟨w.heap.size+1,6,none⟩)) 48 hH ?_;refine Z4 12 fun K hK=>?_;have hz13:=hgf.trans (HFZ8.out _ hEn);clear hgf;go_wp2_with fail;refine hK.out _ _ (hH.set (p:=⟨w.heap.size+1,6,none⟩) (Nat.le_succ _) (.slice (some ⟨g6,0,none⟩) (q+1) cap)) (fun hH9=>?_);clear hK hH;rename _=>hH;try simp only [Act.put,Zl]
      refine wpAnyH_done Zk ?_ _;exact ⟨w9.heap.size,g6,cap,rfl,(HST8.out.ext hEn).pushW HG.out.1 HG.out.2.1 HG.out.2.2.1 HG.out.2.2.2 HST8.out.ex.size ((fin_row HMK.out.1).chg (ChgM.of_ext (Ext.alloc (Ext.refl _) _))) (fun i e=>by obtain ⟨b,e1,_,hf⟩:=HST8.out.fW.1 i _ e;cases e1;exact absurd hf.lt (Nat.lt_irrefl _))⟩
     .rw [if_pos Zr];go_wp2_with fail;refine hK.out _ _ (hH.alloc _) (fun hH9=>?_);clear hK hH;rename _=>hH;try simp only [Act.put,Zl]
      refine Z4 4 fun K hK=>?_;have hk4:=Ext.keep (Ext.alloc (Ext.grown (Ext.refl _) HMK.out.2 (fun b hb=>by cases hb)) (.cells #[.slice (some ⟨w8.heap.size,0,none⟩) m m] 27)) (show w8.drew.cell? _=_ from rc6);go_wp2_with fail;refine hK.out _ _ (hH) (fun hH9=>?_);clear hK hH;rename _=>hH;try simp only [Act.put,Zl]
      refine Z4 9 fun K hK=>?_;have hEn:Ext w8 (w9.alloc (.cells #[.slice (some ⟨w8.heap.size,0,none⟩) m m] 27)):=Ext.alloc (Ext.trans (Ext.drew (Ext.refl w8)) (Ext.grown (Ext.refl _) HMK.out.2 (fun b hb=>by cases hb))) _;have hszn:=hH.size;refine wp_append_lies _ (.tmp 41) (.tmp 45) 111 rfl w.heap.size 27 i2 (.slice none 0 0) 1 24 Tryz.underlying111 h2i h2z h2s h2b rfl (by decide) _ _ ws rfl (own_ext HST8.out.oW hEn) ⟨w9.heap.size,0,none⟩ 1 1 [.slice (some ⟨w8.heap.size,0,none⟩) m m] rfl rfl (one_cells _ _ _) (one_slice _ _ _) (by decide) (by unfold maxLen;omega) Zo hszn _ rfl (fun g6 cap wx hown hg hat hlt=>?_);have HG:=Zh (And.intro hown (And.intro hg (And.intro hat hlt)));have hgx:=hg.cell (HSTB8.out hEn) (HNB8.out 0) ;have hgf:=hg.frozen_far ⟨w.heap.size+1,6,none⟩ (HSTL8.out hEn) (HNB8.out 0);refine hK.out _ _ (Ext.grown hH hg (fun b hb=>(HOWN8.out b hb).1)) (fun hH9=>?_);clear hK hH;rename _=>hH;try simp only [Act.put,Zl]
      refine s2Z2 10 (.pointer (some ⟨w.heap.size+1,0,none⟩)) 47 11 (.pointer (some ⟨w.heap.size+1,6,none⟩)) 48 hH ?_;refine Z4 12 fun K hK=>?_;have hz13:=hgf.trans (HFZ8.out _ hEn);clear hgf;go_wp2_with fail;refine hK.out _ _ (hH.set (p:=⟨w.heap.size+1,6,none⟩) (Nat.le_succ _) (.slice (some ⟨g6,0,none⟩) (q+1) cap)) (fun hH9=>?_);clear hK hH;rename _=>hH;try simp only [Act.put,Zl]
      refine wpAnyH_done Zk ?_ _;exact ⟨w9.heap.size,g6,cap,rfl,(HST8.out.ext hEn).pushW HG.out.1 HG.out.2.1 HG.out.2.2.1 HG.out.2.2.2 HST8.out.ex.size ((fin_row HMK.out.1).chg (ChgM.of_ext (Ext.alloc (Ext.refl _) _))) (fun i e=>by obtain ⟨b,e1,_,hf⟩:=HST8.out.fW.1 i _ e;cases e1;exact absurd hf.lt (Nat.lt_irrefl _))⟩
   obtain ⟨q8,g7,cap7,ha,hM9⟩:=hR;simp only [Act.put,Zl] at ha;subst ha;have HST9:=Zh hM9;clear hM9;go_wp2;go_roundw
   case rel=>exact ⟨q+1,by go_num,Zo,Zh ⟨_,_,_,_,_,_,HST9.out⟩⟩
   case measure=>exact mq31
  .have hqk:q=k:=by omega
   subst hqk;go_wp2_with fail;go_loopw [11] (fun iv wr=>∃ p:Nat,iv=.int .i64 p∧p≤m∧Hid (∃ At ct us,MkSt w wr (w.heap.size+1) (.slice (some ⟨ab,ao,none⟩) n c) (.slice (some ⟨rb,ro,none⟩) n rc) (.slice (some ⟨sb,so,none⟩) q l) (.slice (some ⟨tb,tq,none⟩) m d) ar s t m q p q As cs At ct Aw cw vs us ws)) (fun iv _=>m - (intOf iv).toNat)
   case atStart=>exact ⟨0,rfl,Nat.zero_le _,Zh ⟨_,_,_,HST.out⟩⟩
   clear rg0 hEr hszr HST
   case round=>
    obtain ⟨p,rfl,hp,hM⟩:=hrel;obtain ⟨At,ct,us,hst⟩:=hM.out;clear hM;have HST:=Zh hst;have hEr:=hst.ex;have rg0:wr.cell? ⟨w.heap.size,0,none⟩=some (.slice (some ⟨ab,ao,none⟩) n c):=by rw [cell_of_row wr _ _ _ _ (0,0) hst.sg];rfl
    have hszr:=hEr.size;clear hst;by_cases hlt:p < m
    .have hqk:(p:Int) < (m:Int):=by omega
     obtain ⟨⟨x,xs⟩,hsub⟩:∃ u,subT ar t p=u:=⟨_,rfl⟩;obtain ⟨hu,rest,hud⟩:=subT_ok HTT.out (show p < t.length by rw [HB.out.len];exact hlt);rw [hsub] at hu hud;have HU:=Zh hu;have HUD:=Zh hud;have HSUB:=Zh (show (subT ar t p).as=xs by rw [hsub];rfl);have HOWN:=Zh HST.out.own.2.1;have rc4:wr.cell? ⟨w.heap.size+1,5,none⟩=some (.slice At p ct):=by rw [cell_of_row wr _ _ _ _ (0,0) HST.out.bx];rfl
     have HSTB:Hid (∀ {W:World},Ext wr W→W.cell? ⟨w.heap.size+1,5,none⟩=some (.slice At p ct)):=Zh (fun hE=>Ext.keep hE rc4);have HSTL:Hid (∀ {W:World},Ext wr W→w.heap.size+1 < W.heap.size):=Zh (fun hE=>Nat.lt_of_lt_of_le HST.out.glt hE.size);have HFZ:Hid (∀ (W:World),Ext wr W→W.frozen? ⟨w.heap.size+1,5,none⟩=false):=Zh (fun W hE=>frozen_of_row W _ _ _ _ (HST.out.ext hE).bx);have HNB:Hid (∀ x:Nat,some (w.heap.size+1)≠(Value.slice At p ct).ownBlock):=Zh (fun _ e=>(HOWN.out _ e.symm).2.2 rfl);clear hsub hu hud;go_wp2_with fail;refine wp_only (R:=fun (a0:Act) (a8:Act) (w9:World)=>∃ (A8:Option Addr) (c8 q8 g6 cap:Nat),a8=(((((((((((((a0.put (some 55) (.pointer (some ⟨w.heap.size+1,0,none⟩))).put (some 56) (.pointer (some ⟨w.heap.size+1,0,none⟩))).put (some 57) (.pointer (some ⟨w.heap.size+1,0,none⟩))).put (some 58) (.pointer (some ⟨w.heap.size+1,5,none⟩))).put (some 59) (.slice At p ct)).put (some 60) (.agg #[.slice (some ⟨ab,ao,none⟩) n c])).put (some 61) (.slice (some ⟨tb,tq,none⟩) m d)).put (some 62) (.int .i64 (p:Int))).put (some 63) (.slice A8 xs.length c8)).put (some 64) (.slice (some ⟨q8,0,none⟩) 1 1)).put (some 65) (.slice (some ⟨g6,0,none⟩) (p+1) cap)).put (some 66) (.pointer (some ⟨w.heap.size+1,0,none⟩))).put (some 67) (.pointer (some ⟨w.heap.size+1,5,none⟩)))∧MkSt w w9 (w.heap.size+1) (.slice (some ⟨ab,ao,none⟩) n c) (.slice (some ⟨rb,ro,none⟩) n rc) (.slice (some ⟨sb,so,none⟩) q l) (.slice (some ⟨tb,tq,none⟩) m d) ar s t m q (p+1) q As cs (some ⟨g6,0,none⟩) cap Aw cw vs (us++[.slice A8 (subT ar t p).as.length c8]) ws) ?_ (fun a8 w8 hR=>?_)
     .refine wp_region_held_drew (S:=(fun w'=>Ext w w'∧w'.cell? ⟨w.heap.size,0,none⟩=some (.slice (some ⟨ab,ao,none⟩) n c))) Zk (⟨Ext.drew hEr,rg0⟩) (fun hH=>?_);refine Z3 0 (.pointer (some ⟨w.heap.size+1,0,none⟩)) 55 hH ?_ ?_
      .exact z15q31
      refine Z3 1 (.pointer (some ⟨w.heap.size+1,0,none⟩)) 56 hH ?_ ?_
      .exact z15q31
      refine Z3 2 (.pointer (some ⟨w.heap.size+1,0,none⟩)) 57 hH ?_ ?_
      .exact z15q31
      refine Z3 3 (.pointer (some ⟨w.heap.size+1,5,none⟩)) 58 hH ?_ ?_
      .exact z15q31
      refine Z3 5 (.agg #[.slice (some ⟨ab,ao,none⟩) n c]) 60 hH ?_ ?_
      .exact z15q31
      refine Z3 6 (.slice (some ⟨tb,tq,none⟩) m d) 61 hH ?_ ?_
      .exact z15q31
      refine Z3 7 (.int .i64 (p:Int)) 62 hH ?_ ?_
      .exact z15q31
      refine wpAnyH_ready (rs:=[4,8]) Zk (by simp) ?_;refine AllReadyH.cons rfl (fun K hK=>?_) (AllReadyH.cons rfl (fun K hK=>?_) (AllReadyH.nil))
      .rw [if_pos Zr];go_wp2_with fail;refine hK.out _ _ (⟨hH.1,hH.2⟩) (fun hH9=>?_);clear hK hH;rename _=>hH;try simp only [Act.put,Zl]
       refine Z4 8 fun K hK=>?_;go_wp2_with fail
       (with_reducible refine (c_l13Args (RdSig.mk (RI.ext HA.out hH.1)) (RdI.mk (RI.ext HB.out hH.1)) HSG.out HU.out HUD.out).mono ?_);rintro e w9 ⟨A8,c8,rfl,hO8,hE9⟩;refine hK.out _ _ (⟨Ext.trans hH.1 hE9,Ext.keep hE9 hH.2⟩) (fun hH9=>?_);clear hK hH;rename _=>hH;try simp only [Act.put,Zl]
       refine Z4 9 fun K hK=>?_;go_wp2_with fail;refine hK.out _ _ (⟨hH.1.alloc _,Ext.keep (Ext.alloc (Ext.refl _) _) hH.2⟩) (fun hH9=>?_);clear hK hH;rename _=>hH;try simp only [Act.put,Zl]
       refine Z4 10 fun K hK=>?_;have hEn:Ext wr (w9.alloc (.cells #[.slice A8 xs.length c8] 135)):=Ext.alloc (Ext.trans (Ext.drew (Ext.refl wr)) hE9) _;have hszn:=hH.1.size;refine wp_append_lies _ (.tmp 59) (.tmp 64) 110 rfl w.heap.size 135 i1 (.slice none 0 0) 1 24 Tryz.underlying110 h1i h1z h1s h1b rfl (by decide) _ _ us rfl (own_ext HST.out.oT hEn) ⟨w9.heap.size,0,none⟩ 1 1 [.slice A8 xs.length c8] rfl rfl (one_cells _ _ _) (one_slice _ _ _) (by decide) (by unfold maxLen;omega) Zo hszn _ rfl (fun g6 cap wx hown hg hat hlt=>?_);have HG:=Zh (And.intro hown (And.intro hg (And.intro hat hlt)));have hgx:=hg.cell (HSTB.out hEn) (HNB.out 0) ;have hgf:=hg.frozen_far ⟨w.heap.size+1,5,none⟩ (HSTL.out hEn) (HNB.out 0);refine hK.out _ _ (⟨Ext.grown hH.1 hg (fun b hb=>(HOWN.out b hb).1),hg.cell hH.2 (fun e=>(HOWN.out _ e.symm).2.1 rfl)⟩) (fun hH9=>?_);clear hK hH;rename _=>hH;try simp only [Act.put,Zl]
       refine Z3 11 (.pointer (some ⟨w.heap.size+1,0,none⟩)) 66 hH ?_ ?_
       .exact z15q31
       refine Z3 12 (.pointer (some ⟨w.heap.size+1,5,none⟩)) 67 hH ?_ ?_
       .exact z15q31
       refine Z4 13 fun K hK=>?_;have hz13:=hgf.trans (HFZ.out _ hEn);clear hgf;go_wp2_with fail;refine hK.out _ _ (⟨hH.1.set (p:=⟨w.heap.size+1,5,none⟩) (Nat.le_succ _) (.slice (some ⟨g6,0,none⟩) (p+1) cap),(show (wx.setCell ⟨w.heap.size+1,5,none⟩ (.slice (some ⟨g6,0,none⟩) (p+1) cap)).cell? ⟨w.heap.size,0,none⟩=_ from by rw [World.cell?_setCell_other _ _ _ _ (by first | (simp;done) | (simp;omega))];exact hH.2)⟩) (fun hH9=>?_);clear hK hH;rename _=>hH;try simp only [Act.put,Zl]
       refine wpAnyH_done Zk ?_ _;exact ⟨A8,c8,w9.heap.size,g6,cap,rfl,(HST.out.ext hEn).pushT x0q31 HG.out.2.1 HG.out.2.2.1 HG.out.2.2.2 (by rw [HSUB.out];exact (hO8.fin).chg (ChgM.of_ext (Ext.alloc (Ext.refl _) _)))⟩
      .rw [if_pos Zr];go_wp2_with fail
       (with_reducible refine (c_l13Args (RdSig.mk (RI.ext HA.out hH.1)) (RdI.mk (RI.ext HB.out hH.1)) HSG.out HU.out HUD.out).mono ?_);rintro e w9 ⟨A8,c8,rfl,hO8,hE9⟩;refine hK.out _ _ (⟨Ext.trans hH.1 hE9,Ext.keep hE9 hH.2⟩) (fun hH9=>?_);clear hK hH;rename _=>hH;try simp only [Act.put,Zl]
       refine wpAnyH_ready (rs:=[4,9]) Zk (by simp) ?_;refine AllReadyH.cons rfl (fun K hK=>?_) (AllReadyH.cons rfl (fun K hK=>?_) (AllReadyH.nil))
       .rw [if_pos Zr];have hk4:=Ext.keep hE9 (show wr.drew.cell? _=_ from rc4);go_wp2_with fail;refine hK.out _ _ (⟨hH.1,hH.2⟩) (fun hH9=>?_);clear hK hH;rename _=>hH;try simp only [Act.put,Zl]
        refine Z4 9 fun K hK=>?_;go_wp2_with fail;refine hK.out _ _ (⟨hH.1.alloc _,Ext.keep (Ext.alloc (Ext.refl _) _) hH.2⟩) (fun hH9=>?_);clear hK hH;rename _=>hH;try simp only [Act.put,Zl]
        refine Z4 10 fun K hK=>?_;have hEn:Ext wr (w9.alloc (.cells #[.slice A8 xs.length c8] 135)):=Ext.alloc (Ext.trans (Ext.drew (Ext.refl wr)) hE9) _;have hszn:=hH.1.size;refine wp_append_lies _ (.tmp 59) (.tmp 64) 110 rfl w.heap.size 135 i1 (.slice none 0 0) 1 24 Tryz.underlying110 h1i h1z h1s h1b rfl (by decide) _ _ us rfl (own_ext HST.out.oT hEn) ⟨w9.heap.size,0,none⟩ 1 1 [.slice A8 xs.length c8] rfl rfl (one_cells _ _ _) (one_slice _ _ _) (by decide) (by unfold maxLen;omega) Zo hszn _ rfl (fun g6 cap wx hown hg hat hlt=>?_);have HG:=Zh (And.intro hown (And.intro hg (And.intro hat hlt)));have hgx:=hg.cell (HSTB.out hEn) (HNB.out 0) ;have hgf:=hg.frozen_far ⟨w.heap.size+1,5,none⟩ (HSTL.out hEn) (HNB.out 0);refine hK.out _ _ (⟨Ext.grown hH.1 hg (fun b hb=>(HOWN.out b hb).1),hg.cell hH.2 (fun e=>(HOWN.out _ e.symm).2.1 rfl)⟩) (fun hH9=>?_);clear hK hH;rename _=>hH;try simp only [Act.put,Zl]
        refine Z3 11 (.pointer (some ⟨w.heap.size+1,0,none⟩)) 66 hH ?_ ?_
        .exact z15q31
        refine Z3 12 (.pointer (some ⟨w.heap.size+1,5,none⟩)) 67 hH ?_ ?_
        .exact z15q31
        refine Z4 13 fun K hK=>?_;have hz13:=hgf.trans (HFZ.out _ hEn);clear hgf;go_wp2_with fail;refine hK.out _ _ (⟨hH.1.set (p:=⟨w.heap.size+1,5,none⟩) (Nat.le_succ _) (.slice (some ⟨g6,0,none⟩) (p+1) cap),(show (wx.setCell ⟨w.heap.size+1,5,none⟩ (.slice (some ⟨g6,0,none⟩) (p+1) cap)).cell? ⟨w.heap.size,0,none⟩=_ from by rw [World.cell?_setCell_other _ _ _ _ (by first | (simp;done) | (simp;omega))];exact hH.2)⟩) (fun hH9=>?_);clear hK hH;rename _=>hH;try simp only [Act.put,Zl]
        refine wpAnyH_done Zk ?_ _;exact ⟨A8,c8,w9.heap.size,g6,cap,rfl,(HST.out.ext hEn).pushT x0q31 HG.out.2.1 HG.out.2.2.1 HG.out.2.2.2 (by rw [HSUB.out];exact (hO8.fin).chg (ChgM.of_ext (Ext.alloc (Ext.refl _) _)))⟩
       .rw [if_pos Zr];go_wp2_with fail;refine hK.out _ _ (⟨hH.1.alloc _,Ext.keep (Ext.alloc (Ext.refl _) _) hH.2⟩) (fun hH9=>?_);clear hK hH;rename _=>hH;try simp only [Act.put,Zl]
        refine Z4 4 fun K hK=>?_;have hk4:=Ext.keep (Ext.alloc hE9 (.cells #[.slice A8 xs.length c8] 135)) (show wr.drew.cell? _=_ from rc4);go_wp2_with fail;refine hK.out _ _ (⟨hH.1,hH.2⟩) (fun hH9=>?_);clear hK hH;rename _=>hH;try simp only [Act.put,Zl]
        refine Z4 10 fun K hK=>?_;have hEn:Ext wr (w9.alloc (.cells #[.slice A8 xs.length c8] 135)):=Ext.alloc (Ext.trans (Ext.drew (Ext.refl wr)) hE9) _;have hszn:=hH.1.size;refine wp_append_lies _ (.tmp 59) (.tmp 64) 110 rfl w.heap.size 135 i1 (.slice none 0 0) 1 24 Tryz.underlying110 h1i h1z h1s h1b rfl (by decide) _ _ us rfl (own_ext HST.out.oT hEn) ⟨w9.heap.size,0,none⟩ 1 1 [.slice A8 xs.length c8] rfl rfl (one_cells _ _ _) (one_slice _ _ _) (by decide) (by unfold maxLen;omega) Zo hszn _ rfl (fun g6 cap wx hown hg hat hlt=>?_);have HG:=Zh (And.intro hown (And.intro hg (And.intro hat hlt)));have hgx:=hg.cell (HSTB.out hEn) (HNB.out 0) ;have hgf:=hg.frozen_far ⟨w.heap.size+1,5,none⟩ (HSTL.out hEn) (HNB.out 0);refine hK.out _ _ (⟨Ext.grown hH.1 hg (fun b hb=>(HOWN.out b hb).1),hg.cell hH.2 (fun e=>(HOWN.out _ e.symm).2.1 rfl)⟩) (fun hH9=>?_);clear hK hH;rename _=>hH;try simp only [Act.put,Zl]
        refine Z3 11 (.pointer (some ⟨w.heap.size+1,0,none⟩)) 66 hH ?_ ?_
        .exact z15q31
        refine Z3 12 (.pointer (some ⟨w.heap.size+1,5,none⟩)) 67 hH ?_ ?_
        .exact z15q31
        refine Z4 13 fun K hK=>?_;have hz13:=hgf.trans (HFZ.out _ hEn);clear hgf;go_wp2_with fail;refine hK.out _ _ (⟨hH.1.set (p:=⟨w.heap.size+1,5,none⟩) (Nat.le_succ _) (.slice (some ⟨g6,0,none⟩) (p+1) cap),(show (wx.setCell ⟨w.heap.size+1,5,none⟩ (.slice (some ⟨g6,0,none⟩) (p+1) cap)).cell? ⟨w.heap.size,0,none⟩=_ from by rw [World.cell?_setCell_other _ _ _ _ (by first | (simp;done) | (simp;omega))];exact hH.2)⟩) (fun hH9=>?_);clear hK hH;rename _=>hH;try simp only [Act.put,Zl]
        refine wpAnyH_done Zk ?_ _;exact ⟨A8,c8,w9.heap.size,g6,cap,rfl,(HST.out.ext hEn).pushT x0q31 HG.out.2.1 HG.out.2.2.1 HG.out.2.2.2 (by rw [HSUB.out];exact (hO8.fin).chg (ChgM.of_ext (Ext.alloc (Ext.refl _) _)))⟩
     obtain ⟨A8,c8,q8,g6,cap,ha,hM8⟩:=hR;simp only [Act.put,Zl] at ha;subst ha;have HST8:=Zh hM8;clear hM8 rc4 rg0;go_wp2;go_roundw
     case rel=>exact ⟨p+1,by go_num,Zo,Zh ⟨_,_,_,HST8.out⟩⟩
     case measure=>exact mq31
    .have hpm:p=m:=by omega
     subst hpm;obtain ⟨Y,e1,h1,h2,h3,h4⟩:=HST.out.made HSG.out HP0.out.1 HTT.out HTS.out HA.out HR.out HB.out HD.out HP0.out.2.1 HP0.out.2.2 hab hrb htb hsb;have HF:=Zh (And.intro e1 (And.intro h1 (And.intro h2 (And.intro h3 h4))));clear e1 h1 h2 h3 h4;go_wp2;go_ret;exact ⟨Y,by show Ending.returned (.pointer (some ⟨w.heap.size+1,0,none⟩))=_;rw [HF.out.1],HF.out.2.1,HF.out.2.2.1,HF.out.2.2.2.1,HF.out.2.2.2.2,hEr⟩

