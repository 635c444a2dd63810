/- -/
import Derived.Test.YtdlgjhngndpgoaaGreatQ48
set_option maxRecDepth 100000
set_option maxHeartbeats 16000000
set_option linter.all false
namespace Go.Proofs.YtdlgjhngndpgoaaGreat
theorem x0q49 {p:Prop} (h:p:=by rw [hwb];simp [go_sem]):p:=h
theorem x1q49 {p:Prop} (h:p:=by rw [← HPS.out,HN.out];rfl):p:=h
theorem x2q49 {p:Prop} (h:p:=by rw [← HBB.out,HN.out];rfl):p:=h
open Go.RowKit
theorem RI.window {w:World} {b o N p m:Nat} {xs:List Int} (h:RI w (some ⟨b,o,none⟩) N xs) (hp:p+m≤N):RI w (some ⟨b,o+p,none⟩) m ((xs.drop p).take m):=by
 have hl:=h.len;refine ⟨⟨by rw [List.length_take,List.length_drop];omega,by have:=h.le;omega⟩,fun h0=>?_⟩;obtain ⟨b',o',e,hc⟩:=h.2 Zo;cases e;refine ⟨b,o+p,rfl,fun j x hx=>?_⟩;have hj:j < m:=by
  have:=(List.getElem?_eq_some_iff.1 hx).1;rw [List.length_take] at this;omega
 rw [List.getElem?_take,if_pos hj,List.getElem?_drop] at hx;rw [Nat.add_assoc];exact hc (p+j) x hx
theorem RI.windowE {w:World} {A:Option Addr} {p m:Nat} {xs:List Int} (hm:m=0):RI w A 0 ((xs.drop p).take m):=by
 subst hm;rw [List.take_zero];exact RI.nil _ _
theorem wp_append_poly {P:Program} {w1:World} {o:Oper} {a:Act} {K:Act→World→Prop} {Q:Exit→Act→World→Prop} (s x:Operand) (t:TypeId)
 (ho:o.op=.call { callee:=.builtin .append,args:=#[s,x],argTypes:=#[t,t] }) (i:TypeInfo) (ht:P.underlying t=some (.slice 97)) (hi:P.info? 97=some i) (hz:i.zero=some (.agg #[.int .i64 0,.slice none 0 0]))
 (hsize:i.size=2) (hby:i.bytes=32) {B top k c m d q:Nat} {A C:Option Addr} {fs:List Pl} {x0:Int} {xs:List Int} (hs:a.eval s=.slice A k c) (hO:OwD w1 B top A k c fs) (hq:q=w1.heap.size) (hx:a.eval x=.slice (some ⟨q,0,none⟩) 1 1) (hC:OwI w1 top C m d xs)
 (hk:k+1≤1000) (hB:B≤top) (htw:top≤w1.heap.size) (hfar:∀ b,(Value.slice A k c).ownBlock=some b→b < top)
 (hK:∀ A' c' w',OwD w' B w'.heap.size A' (k+1) c' (fs++[⟨x0,xs⟩])→(∀ w0,Ext w0 w1→w0.heap.size≤B→Ext w0 w')→K (a.put o.dst (.slice A' (k+1) c')) w') :
 o.wp P a (w1.alloc (.cells #[.int .i64 x0,.slice C m d] 97)) K Q:=by
 subst hq;obtain ⟨⟨hn9,hl9⟩,vs,ho9,hf9,hd9⟩:=hO.ext ((Ext.refl w1).alloc (.cells #[.int .i64 x0,.slice C m d] 97));have hml:=hC.len;refine wp_append_lies _ s x t ho B 97 i (.agg #[.int .i64 0,.slice none 0 0]) 2 32 ht hi hz hsize hby rfl (by decide) _ k vs hs ho9 ⟨w1.heap.size,0,none⟩ 1 1 [.int .i64 x0,.slice C m d] hx rfl (two_cells' (by simp [go_sem]) _ _ _) (two_one _ _ _ _) (by decide) (by unfold maxLen;omega) Zo (by simp only [World.size_alloc];omega) _ rfl (fun g cap wx hown hg hat hltg=>?_);have hsz:=hg.size;simp only [World.size_alloc] at hsz
 refine hK _ _ wx (OwD.push (f:=⟨x0,xs⟩) (top':=wx.heap.size) (A':=C) (c':=d) hO Zo (by rw [hml];exact hC.lower hB) (fun b o s e=>⟨(hC.bd b o s e).1,by have:=(hC.bd b o s e).2;omega⟩) Zo (fun b o s e e2=>by have h1:=(hC.bd b o s e).1;have h2:=hfar b e2;omega)
  (fun us hu=>by have e:=ownsRow_uniq (World.ownsRow.alloc hu (.cells #[.int .i64 x0,.slice C m d] 97)) ho9;subst e;rw [hml];exact hown) hg hat) (fun w0 h0 hb0=>Ext.grown (h0.alloc _) hg (fun b hb=>by have:=(hO.ob b hb).1;omega))
theorem mq49 {p:Prop} (h:p:=by simp only [intOf];omega):p:=h
theorem c_l16Least {v0:Value} {ar:List Int} {w:World} (h0:RdSig w v0 ar) (h8:ar.length≤8) (h3:∀ n∈ar,0≤n∧n≤3):Calls Tryz.prog 83 #[v0,.int .i64 1] w (NewI w (lowL ar)):=by
 obtain ⟨A0,n0,c0,rfl,ha⟩:=h0;have hn0:=ha.len;have HA:=Zh ha;have HS:=Zh h3;obtain ⟨i0,hii,hiz,his,hib⟩:=info_parts int64_info;have hof:∀ k,offs (ar.take k)≤32:=fun k=>by have:=offs_bd h3;have:=offs_le ar k;omega
 clear ha h3;go_enter Tryz.func83,Tryz.ntmps83;go_wp2_with fail;obtain ⟨wb,hwb⟩:∃ wb,wb=w.alloc (.cells #[.slice A0 n0 c0] 29):=⟨_,rfl⟩;have hs0:wb.cell? ⟨w.heap.size,0,none⟩=some (.slice A0 n0 c0):=x0q49;have hbs:wb.heap.size=w.heap.size+1:=x0q49;have hEwb:Ext w wb:=by rw [hwb];exact extX
 have HO0:=Zh (OwI.none0 (w:=wb) (D:=w.heap.size+1) Zo);rw [← hwb];clear hwb;go_loopw [5,6] (fun ov iv wr=>∃ k:Nat,iv=.int .i64 k∧k≤n0∧(∃ A c,ov=.slice A (offs (ar.take k)) c∧Hid (OwI wr (w.heap.size+1) A (offs (ar.take k)) c (lowL (ar.take k))))∧Hid (Ext wb wr)) (fun _ iv _=>n0 - (intOf iv).toNat)
 case atStart=>exact ⟨0,rfl,Nat.zero_le _,⟨_,0,by first | rfl | simp [offs,go_sem,hbs],Zh (by first | exact HO0.out | (simpa [offs,lowL,hbs] using HO0.out))⟩,Zh ((Ext.refl wb).alloc _)⟩
 case round=>
  obtain ⟨k,rfl,hk,⟨A,c,rfl,hO⟩,hE⟩:=hrel;have hr0:=Ext.keep hE.out hs0;have hEr:=Ext.trans hEwb hE.out;by_cases hlt:k < n0
  .obtain ⟨b,o,z,rfl,hz,hcz⟩:=RI.at_ (RI.ext HA.out hEr) hlt;have hzb:=HS.out z (List.mem_of_getElem? hz);obtain ⟨m,rfl⟩:=Int.eq_ofNat_of_zero_le hzb.1;have hm3:m≤3:=by omega
   have HZ:=Zh hz;have hki:(k:Int) < (n0:Int):=by omega
   have hk0:(0:Int)≤(k:Int):=by omega
   have hofk:=hof k;obtain ⟨p,hp⟩:∃ p,p=offs (ar.take k):=⟨_,rfl⟩;rw [← hp] at hO hofk ⊢;have HPP:=Zh hp;have hsr:=hE.out.size;have HF:=Zh (OwI.freshP (w:=wr) 0).ri;have hcp:=hO.out.cap;have hob:=hO.out.ob2;clear hz hp;go_wp2_with (at_builtin;go_loud (refine wpList_append_ints rfl (.tmp 16) (.tmp 17) 27 rfl i0 Tryz.underlying27 hii hiz his hib (D:=w.heap.size+1) rfl (OwI.alloc hO.out _) rfl (show RI (wr.alloc (.cells #[.int .i64 0] 2)) (some ⟨wr.heap.size,0,none⟩) 1 [0] from HF.out) Zo (by simp only [World.size_alloc];omega) hcp.1 ?_))
   intro A1 c1 w1 hO1 hg1 hat1;have hE1:Ext wb w1:=Ext.grown (hE.out.alloc _) hg1 (fun b hb=>by have:=(hob b hb).1;omega);have HO1:=Zh hO1;clear hO1 hg1 hat1 hob HF hcp;go_wp2_with fail;go_loopw [5,7] (fun ov jv wi=>∃ j:Nat,jv=.int .i64 j∧j≤m∧(∃ A c,ov=.slice A (p+1+j) c∧Hid (OwI wi (w.heap.size+1) A (p+1+j) c (lowL (ar.take k)++(0 :: List.replicate j 1))))∧Hid (Ext wb wi)) (fun _ jv _=>m - (intOf jv).toNat)
   case atStart=>exact ⟨0,rfl,Nat.zero_le _,⟨_,_,rfl,Zh (by simpa using HO1.out)⟩,Zh hE1⟩
   case round=>
    obtain ⟨j,rfl,hj,⟨A2,c2,rfl,hO2⟩,hE2⟩:=hrel;have hi0:=Ext.keep hE2.out hs0;obtain ⟨b',o',z',e',hz',hcz'⟩:=RI.at_ (RI.ext HA.out (Ext.trans hEwb hE2.out)) hlt;cases e';rw [HZ.out] at hz';cases hz';by_cases hjm:j < m
    .have hjmi:(j:Int) < (m:Int):=by omega
     have hsi:=hE2.out.size;have HF:=Zh (OwI.freshP (w:=wr) 1).ri;have hcp:=hO2.out.cap;have hob:=hO2.out.ob2;go_wp2_with (at_builtin;go_loud (refine wpList_append_ints rfl (.tmp 28) (.tmp 30) 27 rfl i0 Tryz.underlying27 hii hiz his hib (D:=w.heap.size+1) rfl (OwI.alloc hO2.out _) rfl (show RI (wr.alloc (.cells #[.int .i64 1] 2)) (some ⟨wr.heap.size,0,none⟩) 1 [1] from HF.out) Zo (by simp only [World.size_alloc];omega) hcp.1 ?_))
     intro A3 c3 w3 hO3 hg3 hat3;have hE3:Ext wb w3:=Ext.grown (hE2.out.alloc _) hg3 (fun b hb=>by have:=(hob b hb).1;omega);have HO3:=Zh (show OwI w3 (w.heap.size+1) A3 (p+1+(j+1)) c3 (lowL (ar.take k)++(0 :: List.replicate (j+1) 1)) from by
      rw [List.replicate_succ'];exact hO3)
     clear hO3 hg3 hat3 hob HF hcp;go_wp2;go_roundw
     case rel=>exact ⟨j+1,by go_num,Zo,⟨_,_,rfl,HO3⟩,Zh hE3⟩
     case measure=>exact mq49
    .obtain rfl:j=m:=by omega
     have HN:=Zh (show OwI wr (w.heap.size+1) A2 (offs (ar.take (k+1))) c2 (lowL (ar.take (k+1))) from by
      rw [offs_succ HZ.out,lowL_succ HZ.out,← HPP.out,Int.toNat_natCast,show p+(j+1)=p+1+j by omega];exact hO2.out)
     have hlen:offs (ar.take (k+1))=p+1+j:=by rw [offs_succ HZ.out,← HPP.out,Int.toNat_natCast];omega
     go_wp2;go_roundw
     case rel=>exact ⟨k+1,by go_num,Zo,⟨A2,c2,by rw [hlen],HN⟩,hE2⟩
     case measure=>exact mq49
  .obtain rfl:k=n0:=by omega
   have HT:=Zh (show ar.take k=ar from List.take_of_length_le Zo);go_wp2;go_ret;exact ⟨A,_,c,rfl,by have h:=hO.out.lower (B':=w.heap.size) Zo;rwa [HT.out] at h ⊢,hEr⟩
theorem z15q49 {p:Prop} (h:p:=by (intro w' hE';(try dsimp only at hE');have y0:=Ext.keep hE' hs0;have y1:=Ext.keep hE' hczb;have y2:=Ext.keep hE' hcxb;go_simp;try with_reducible rfl)):p:=h
theorem c_l16Polys {v0:Value} {XA:Option Addr} {N xc:Nat} {ar xs:List Int} {w:World} (h0:RdSig w v0 ar) (h8:ar.length≤8) (h3:∀ n∈ar,0≤n∧n≤3) (hx:RI w XA N xs) (hN:N=offs ar) (hcx:N≤xc∧xc≤9223372036854775807) :
 Calls Tryz.prog 84 #[v0,.slice XA N xc] w (NewSz w (polysOf ar xs)):=by
 obtain ⟨A0,n0,c0,rfl,ha⟩:=h0;have hn0:=ha.len;have HA:=Zh ha;have HS:=Zh h3;have HX:=Zh hx;have hxl:=hx.len;obtain ⟨i1,hji,hjz,hjs,hjb⟩:=info_parts polys_info';have hN32:N≤32:=by have:=offs_bd h3;omega
 have HNN:=Zh hN;clear ha h3 hx hN;go_enter Tryz.func84,Tryz.ntmps84;go_wp2_with fail;obtain ⟨wb,hwb⟩:∃ wb,wb=w.alloc (.cells #[.slice A0 n0 c0] 29):=⟨_,rfl⟩;have hs0:wb.cell? ⟨w.heap.size,0,none⟩=some (.slice A0 n0 c0):=x0q49;have hbs:wb.heap.size=w.heap.size+1:=x0q49;have HEwb:=Zh (show Ext w wb by rw [hwb];exact extX);have HO0:=Zh (OwD.none0 (w:=wb) (B:=w.heap.size+1) (top:=wb.heap.size) Zo);rw [← hwb];clear hwb;go_loopw [5,6,7] (fun ov av fv wr=>∃ k:Nat,fv=.int .i64 k∧k≤n0∧av=.int .i64 (offs (ar.take k):Int)∧(∃ A c,ov=.slice A k c∧Hid (OwD wr (w.heap.size+1) wr.heap.size A k c (polysOf (ar.take k) xs)∧∀ b,(Value.slice A k c).ownBlock=some b→b < wr.heap.size))∧Hid (Ext wb wr)) (fun _ _ fv _=>n0 - (intOf fv).toNat)
 case atStart=>exact ⟨0,rfl,Nat.zero_le _,rfl,⟨_,_,rfl,Zh ⟨by have h:=HO0.out.mono (top':=(wb.alloc (.cells #[] 97)).heap.size) (by simp);simpa [polysOf,hbs] using h,fun b hb=>by cases hb;simp [go_sem];omega⟩⟩,Zh ((Ext.refl wb).alloc _)⟩
 case round=>
  obtain ⟨k,rfl,hk,rfl,⟨A,c,rfl,hO⟩,hE⟩:=hrel;have hr0:=Ext.keep hE.out hs0;have HEr:=Zh (Ext.trans HEwb.out hE.out);by_cases hlt:k < n0
  .obtain ⟨b,o,z,rfl,hz,hczb⟩:=RI.at_ (RI.ext HA.out HEwb.out) hlt;have hcz:=Ext.keep hE.out hczb;have hzb:=HS.out z (List.mem_of_getElem? hz);obtain ⟨m,rfl⟩:=Int.eq_ofNat_of_zero_le hzb.1;have hki:(k:Int) < (n0:Int):=by omega
   have hk0:(0:Int)≤(k:Int):=by omega
   have hos:=offs_succ hz;have hle:=offs_le ar (k+1);rw [Int.toNat_natCast] at hos;obtain ⟨p,hp⟩:∃ p,offs (ar.take k)=p:=⟨_,rfl⟩;rw [hp] at hos ⊢;have hNN:=HNN.out;have hpN:p < N:=by omega
   obtain ⟨xb,xo,x0,rfl,hx0,hcxb⟩:=RI.at_ (RI.ext HX.out HEwb.out) hpN;have hcx0:=Ext.keep hE.out hcxb;have HPS:=Zh (show polysOf (ar.take (k+1)) xs=polysOf (ar.take k) xs++[⟨x0,(xs.drop (p+1)).take m⟩] from by
    rw [polysOf_succ hz,hp,Int.toNat_natCast]
    congr 3
    rw [List.getD_eq_getElem?_getD,hx0];rfl)
   obtain ⟨p1,hp1⟩:∃ p1,p1=p+1:=⟨_,rfl⟩;obtain ⟨p2,hp2⟩:∃ p2,p2=p+1+m:=⟨_,rfl⟩;have hw1:IntKind.i64.wrap ((p:Int)+1)=(p1:Int):=by rw [hp1];exact (IntWalk.i64_in _ Zo).trans Zo
   have hw2:IntKind.i64.wrap ((p1:Int)+(m:Int))=(p2:Int):=by rw [hp1,hp2];exact (IntWalk.i64_in _ Zo).trans Zo
   have hi1:(p:Int) < (N:Int):=by omega
   have hi2:p1≤p2:=by omega
   have hi3:p2≤xc:=by omega
   have hi2':(p1:Int)≤(p2:Int):=by omega
   have hi3':(p2:Int)≤(xc:Int):=by omega
   have hpm:p2 - p1=m:=by omega
   have HPM:=Zh hpm;have HP12:=Zh (And.intro hp1 hp2);have HOS:=Zh hos;have hbl3:=World.block_lt_of_cell? wr _ hr0;have hN32':p+1+m≤N:=by omega
   have hk9:k+1≤1000:=by omega
   clear hz hx0 hos hle hpm hp1 hp2 hNN;by_cases hxc:xc=p1
   .subst hxc;have HWN:=Zh (show RI wr (some ⟨xb,xo,none⟩) 0 ((xs.drop (p+1)).take m) from by exact RI.windowE (by have:=HPM.out;omega));go_wp2_with fail;refine wp_only (R:=fun (a0:Act) (a8:Act) (w9:World)=>∃ (C:Option Addr) (cd:Nat) (q:Nat) (A6:Option Addr) (c6:Nat),a8=((((((((((((((((((((((a0.put (some 16) (.slice A k c)).put (some 17) (.slice (some ⟨xb,xo,none⟩) N xc)).put (some 18) (.int .i64 (p:Int))).put (some 19) (.pointer (some ⟨xb,xo+p,none⟩))).put (some 20) (.int .i64 x0)).put (some 21) (.slice (some ⟨xb,xo,none⟩) N xc)).put (some 22) (.int .i64 (p:Int))).put (some 23) (.int .i64 (xc:Int))).put (some 24) (.int .i64 (p:Int))).put (some 25) (.int .i64 (xc:Int))).put (some 26) (.pointer (some ⟨w.heap.size,0,none⟩))).put (some 27) (.slice (some ⟨b,o,none⟩) n0 c0)).put (some 28) (.int .i64 (k:Int))).put (some 29) (.pointer (some ⟨b,o+k,none⟩))).put (some 30) (.int .i64 (m:Int))).put (some 31) (.int .i64 (p2:Int))).put (some 32) (.slice (some ⟨xb,xo,none⟩) 0 0)).put (some 33) (.slice C m cd)).put (some 34) (.agg #[.int .i64 x0,.slice C m cd])).put (some 35) (.slice (some ⟨q,0,none⟩) 1 1)).put (some 36) (.slice A6 (k+1) c6)).put (some 5) (.slice A6 (k+1) c6))∧OwD w9 (w.heap.size+1) w9.heap.size A6 (k+1) c6 (polysOf (ar.take k) xs++[⟨x0,(xs.drop (p+1)).take m⟩])∧Ext wb w9) ?_ (fun a8 w7 hR=>?_)
    .refine wp_region_held_drew (S:=(fun w'=>Ext wb w')) Zk (hE.out.drew) (fun hH=>?_);refine Z3 0 (.slice A k c) 16 hH ?_ ?_
     .exact z15q49
     refine Z3 1 (.slice (some ⟨xb,xo,none⟩) N xc) 17 hH ?_ ?_
     .exact z15q49
     refine Z3 2 (.int .i64 (p:Int)) 18 hH ?_ ?_
     .exact z15q49
     refine Z3 3 (.pointer (some ⟨xb,xo+p,none⟩)) 19 hH ?_ ?_
     .exact z15q49
     refine Z3 4 (.int .i64 x0) 20 hH ?_ ?_
     .exact z15q49
     refine Z3 5 (.slice (some ⟨xb,xo,none⟩) N xc) 21 hH ?_ ?_
     .exact z15q49
     refine Z3 6 (.int .i64 (p:Int)) 22 hH ?_ ?_
     .exact z15q49
     refine Z3 7 (.int .i64 (xc:Int)) 23 hH ?_ ?_
     .exact z15q49
     refine Z3 8 (.int .i64 (p:Int)) 24 hH ?_ ?_
     .exact z15q49
     refine Z3 9 (.int .i64 (xc:Int)) 25 hH ?_ ?_
     .exact z15q49
     refine Z3 10 (.pointer (some ⟨w.heap.size,0,none⟩)) 26 hH ?_ ?_
     .exact z15q49
     refine Z3 11 (.slice (some ⟨b,o,none⟩) n0 c0) 27 hH ?_ ?_
     .exact z15q49
     refine Z3 12 (.int .i64 (k:Int)) 28 hH ?_ ?_
     .exact z15q49
     refine Z3 13 (.pointer (some ⟨b,o+k,none⟩)) 29 hH ?_ ?_
     .exact z15q49
     refine Z3 14 (.int .i64 (m:Int)) 30 hH ?_ ?_
     .exact z15q49
     refine Z3 15 (.int .i64 (p2:Int)) 31 hH ?_ ?_
     .exact z15q49
     refine Z3 16 (.slice (some ⟨xb,xo,none⟩) 0 0) 32 hH ?_ ?_
     .exact z15q49
     refine Z4 17 fun K hK=>?_;go_wp2_with fail;(with_reducible refine (c_l1Copy (RI.ext HWN.out (Ext.refl wr).drew)).mono ?_);rintro e w9 ⟨C,cm,cd,rfl,hC,hE9⟩;obtain rfl:m=cm:=by { have h7:=hC.len;have h8:=HWN.out.len;have h9:=HPM.out;omega };have hC9:=hC;have hE99:=Ext.trans (Ext.refl wr).drew hE9
     refine hK.out _ _ (Ext.trans hH hE9) (fun hH9=>?_);clear hK hH;rename _=>hH;try simp only [Act.put,Zl]
     refine Z3 18 (.agg #[.int .i64 x0,.slice C m cd]) 34 hH ?_ ?_
     .exact z15q49
     refine Z4 19 fun K hK=>?_;go_wp2_with fail;refine hK.out _ _ (hH.alloc _) (fun hH9=>?_);clear hK hH;rename _=>hH;try simp only [Act.put,Zl]
     refine Z4 20 fun K hK=>?_;refine wp_append_poly (.tmp 16) (.tmp 35) 38 rfl i1 Tryz.underlying38 hji hjz hjs hjb (B:=w.heap.size+1) (top:=wr.heap.size) rfl (hO.out.1.ext hE99) rfl rfl hC9 hk9 Zo hE99.size hO.out.2 (fun A6 c6 w6 hO6 hx6=>?_);have hE6:=hx6 wb (Ext.trans hE.out hE99) Zo;refine hK.out _ _ (hE6) (fun hH9=>?_);clear hK hH;rename _=>hH;try simp only [Act.put,Zl]
     refine Z3 21 (.slice A6 (k+1) c6) 5 hH ?_ ?_
     .exact z15q49
     refine wpAnyH_done Zk ?_ _;exact ⟨C,cd,_,A6,c6,Zr,hO6,hE6⟩
    obtain ⟨C,cd,q,A6,c6,ha,⟨hO6,hE6⟩⟩:=hR;simp only [Act.put,Zl] at ha;subst ha;have HO6:=Zh hO6;have HOB6:=Zh hO6.ob;have z0:=Ext.keep hE6 hs0;have z1:=Ext.keep hE6 hczb;clear hO6 hr0 hcz hcx0;go_wp2;go_roundw
    case rel=>exact ⟨k+1,by go_num,Zo,by rw [HOS.out];exact congrArg _ (by have:=HP12.out;omega),⟨A6,c6,rfl,Zh ⟨by rw [HPS.out];exact HO6.out,fun b hb=>(HOB6.out b hb).2⟩⟩,Zh hE6⟩
    case measure=>exact mq49
   .have hxd:decide (xc=p1)=false:=by simpa using hxc
    have HWN:=Zh (show RI wr (some ⟨xb,xo+p1,none⟩) (p2 - p1) ((xs.drop (p+1)).take m) from by rw [HPM.out,HP12.out.1];exact RI.window (RI.ext HX.out HEr.out) Zo);go_wp2_with fail;refine wp_only (R:=fun (a0:Act) (a8:Act) (w9:World)=>∃ (C:Option Addr) (cd:Nat) (q:Nat) (A6:Option Addr) (c6:Nat),a8=((((((((((((((((((((((a0.put (some 16) (.slice A k c)).put (some 17) (.slice (some ⟨xb,xo,none⟩) N xc)).put (some 18) (.int .i64 (p:Int))).put (some 19) (.pointer (some ⟨xb,xo+p,none⟩))).put (some 20) (.int .i64 x0)).put (some 21) (.slice (some ⟨xb,xo,none⟩) N xc)).put (some 22) (.int .i64 (p:Int))).put (some 23) (.int .i64 (p1:Int))).put (some 24) (.int .i64 (p:Int))).put (some 25) (.int .i64 (p1:Int))).put (some 26) (.pointer (some ⟨w.heap.size,0,none⟩))).put (some 27) (.slice (some ⟨b,o,none⟩) n0 c0)).put (some 28) (.int .i64 (k:Int))).put (some 29) (.pointer (some ⟨b,o+k,none⟩))).put (some 30) (.int .i64 (m:Int))).put (some 31) (.int .i64 (p2:Int))).put (some 32) (.slice (some ⟨xb,xo+p1,none⟩) (p2 - p1) (xc - p1))).put (some 33) (.slice C m cd)).put (some 34) (.agg #[.int .i64 x0,.slice C m cd])).put (some 35) (.slice (some ⟨q,0,none⟩) 1 1)).put (some 36) (.slice A6 (k+1) c6)).put (some 5) (.slice A6 (k+1) c6))∧OwD w9 (w.heap.size+1) w9.heap.size A6 (k+1) c6 (polysOf (ar.take k) xs++[⟨x0,(xs.drop (p+1)).take m⟩])∧Ext wb w9) ?_ (fun a8 w7 hR=>?_)
    .refine wp_region_held_drew (S:=(fun w'=>Ext wb w')) Zk (hE.out.drew) (fun hH=>?_);refine Z3 0 (.slice A k c) 16 hH ?_ ?_
     .exact z15q49
     refine Z3 1 (.slice (some ⟨xb,xo,none⟩) N xc) 17 hH ?_ ?_
     .exact z15q49
     refine Z3 2 (.int .i64 (p:Int)) 18 hH ?_ ?_
     .exact z15q49
     refine Z3 3 (.pointer (some ⟨xb,xo+p,none⟩)) 19 hH ?_ ?_
     .exact z15q49
     refine Z3 4 (.int .i64 x0) 20 hH ?_ ?_
     .exact z15q49
     refine Z3 5 (.slice (some ⟨xb,xo,none⟩) N xc) 21 hH ?_ ?_
     .exact z15q49
     refine Z3 6 (.int .i64 (p:Int)) 22 hH ?_ ?_
     .exact z15q49
     refine Z3 7 (.int .i64 (p1:Int)) 23 hH ?_ ?_
     .exact z15q49
     refine Z3 8 (.int .i64 (p:Int)) 24 hH ?_ ?_
     .exact z15q49
     refine Z3 9 (.int .i64 (p1:Int)) 25 hH ?_ ?_
     .exact z15q49
     refine Z3 10 (.pointer (some ⟨w.heap.size,0,none⟩)) 26 hH ?_ ?_
     .exact z15q49
     refine Z3 11 (.slice (some ⟨b,o,none⟩) n0 c0) 27 hH ?_ ?_
     .exact z15q49
     refine Z3 12 (.int .i64 (k:Int)) 28 hH ?_ ?_
     .exact z15q49
     refine Z3 13 (.pointer (some ⟨b,o+k,none⟩)) 29 hH ?_ ?_
     .exact z15q49
     refine Z3 14 (.int .i64 (m:Int)) 30 hH ?_ ?_
     .exact z15q49
     refine Z3 15 (.int .i64 (p2:Int)) 31 hH ?_ ?_
     .exact z15q49
     refine Z3 16 (.slice (some ⟨xb,xo+p1,none⟩) (p2 - p1) (xc - p1)) 32 hH ?_ ?_
     .exact z15q49
     refine Z4 17 fun K hK=>?_;go_wp2_with fail;(with_reducible refine (c_l1Copy (RI.ext HWN.out (Ext.refl wr).drew)).mono ?_);rintro e w9 ⟨C,cm,cd,rfl,hC,hE9⟩;obtain rfl:m=cm:=by { have h7:=hC.len;have h8:=HWN.out.len;have h9:=HPM.out;omega };have hC9:=hC;have hE99:=Ext.trans (Ext.refl wr).drew hE9
     refine hK.out _ _ (Ext.trans hH hE9) (fun hH9=>?_);clear hK hH;rename _=>hH;try simp only [Act.put,Zl]
     refine Z3 18 (.agg #[.int .i64 x0,.slice C m cd]) 34 hH ?_ ?_
     .exact z15q49
     refine Z4 19 fun K hK=>?_;go_wp2_with fail;refine hK.out _ _ (hH.alloc _) (fun hH9=>?_);clear hK hH;rename _=>hH;try simp only [Act.put,Zl]
     refine Z4 20 fun K hK=>?_;refine wp_append_poly (.tmp 16) (.tmp 35) 38 rfl i1 Tryz.underlying38 hji hjz hjs hjb (B:=w.heap.size+1) (top:=wr.heap.size) rfl (hO.out.1.ext hE99) rfl rfl hC9 hk9 Zo hE99.size hO.out.2 (fun A6 c6 w6 hO6 hx6=>?_);have hE6:=hx6 wb (Ext.trans hE.out hE99) Zo;refine hK.out _ _ (hE6) (fun hH9=>?_);clear hK hH;rename _=>hH;try simp only [Act.put,Zl]
     refine Z3 21 (.slice A6 (k+1) c6) 5 hH ?_ ?_
     .exact z15q49
     refine wpAnyH_done Zk ?_ _;exact ⟨C,cd,_,A6,c6,Zr,hO6,hE6⟩
    obtain ⟨C,cd,q,A6,c6,ha,⟨hO6,hE6⟩⟩:=hR;simp only [Act.put,Zl] at ha;subst ha;have HO6:=Zh hO6;have HOB6:=Zh hO6.ob;have z0:=Ext.keep hE6 hs0;have z1:=Ext.keep hE6 hczb;clear hO6 hr0 hcz hcx0;go_wp2;go_roundw
    case rel=>exact ⟨k+1,by go_num,Zo,by rw [HOS.out];exact congrArg _ (by have:=HP12.out;omega),⟨A6,c6,rfl,Zh ⟨by rw [HPS.out];exact HO6.out,fun b hb=>(HOB6.out b hb).2⟩⟩,Zh hE6⟩
    case measure=>exact mq49
  .obtain rfl:k=n0:=by omega
   have HT:=Zh (show ar.take k=ar from List.take_of_length_le Zo);go_wp2;go_ret;exact ⟨A,k,c,rfl,by have h:=hO.out.1.lower (B':=w.heap.size) Zo;rwa [HT.out] at h,HEr.out⟩
def TF (s:Sy) (xs:List Int):Prop:=polyAll true s (polysOf s.ar xs)=true
noncomputable def fpoO (s:Sy) (most:Int):Option (List Int):=
 @ite _ (sysOk s=true∧0≤triP s.ar most) (Classical.propDecidable _) (srch (TF s) (lowL s.ar) (List.replicate (offs s.ar) most) (cnt (lowL s.ar) (List.replicate (offs s.ar) most) - rkU (lowL s.ar) (lowL s.ar) (List.replicate (offs s.ar) most)) (lowL s.ar)) none
noncomputable def fpoV (s:Sy) (most:Int):List Pl:=((fpoO s most).map (polysOf s.ar)).getD []
theorem fpoO_no {s:Sy} {most:Int} (h:¬ (sysOk s=true∧0≤triP s.ar most)):fpoO s most=none:=if_neg h
theorem triP_in {ar:List Int} {most:Int} (h:0≤triP ar most):1≤most∧most≤3:=by
 unfold triP at h;split at h
 .rename_i h1;exact h1.2
 .omega
theorem orients_at {s:Sy} {most:Int} {xs:List Int} (hs:sysOk s=true) (hm:1≤most∧most≤3) (hb:Btw xs (lowL s.ar) (List.replicate (offs s.ar) most)) :
 PolysP s.ar (polysOf s.ar xs)∧polyOrients s (polysOf s.ar xs)=polyAll true s (polysOf s.ar xs):=by
 have hsp:=sysOk_iff.1 hs;have hsg:SigP s.ar:=hsp.1;have h0:∀ n∈s.ar,0≤n:=fun n hn=>(hsg.2.2 n hn).1;have hk:=polys_between hm.2 h0 hb;have hp:PolysP s.ar (polysOf s.ar xs):=⟨hsg,polysOf_len _ _,fun j p n h1 h2=>by
  obtain ⟨k1,k2,k3⟩:=hk j p n h1 h2;exact ⟨k1,k2,fun x hx=>by have:=k3 x hx;omega⟩⟩
 refine ⟨hp,?_⟩;have hst:strictIn s.ar (polysOf s.ar xs)=true:=strictIn_t (polysOk_iff.2 hp) fun p hp' x hx=>by
  obtain ⟨j,hj⟩:=List.mem_iff_getElem?.1 hp';have hjl:j < s.ar.length:=by have:=(List.getElem?_eq_some_iff.1 hj).1;rw [polysOf_len] at this;exact this
  exact ((hk j p _ hj (List.getElem?_eq_getElem hjl)).2.2 x hx).1
 unfold polyOrients;rw [hs,hst];rfl
noncomputable def spMeas (T:List Int→Prop) (ls hs:List Int) (o:Option (List Int)) (N:Nat) (lv mv:Value) (w:World):Nat:=match mv with
 | .bool true=>leastOf (fun k=>∃ A c xs,lv=.slice A N c∧RI w A N xs∧OnWay T ls hs o k xs)+1
 | _=>0
theorem spMeas_t {T:List Int→Prop} {ls hs:List Int} {o:Option (List Int)} {N:Nat} {lv:Value} {w:World}:spMeas T ls hs o N lv (.bool true) w=leastOf (fun k=>∃ A c xs,lv=.slice A N c∧RI w A N xs∧OnWay T ls hs o k xs)+1:=rfl
theorem spMeas_f {T:List Int→Prop} {ls hs:List Int} {o:Option (List Int)} {N:Nat} {lv:Value} {w:World}:spMeas T ls hs o N lv (.bool false) w=0:=rfl
def NewFs (w:World) (ps:List Pl) (b:Bool) (e:Ending) (w':World):Prop:=∃ A n c,e=.returned (.tuple #[.slice A n c,.bool b])∧OwD w' w.heap.size w'.heap.size A n c ps∧Ext w w'
theorem low_ge (ar:List Int) (most:Int):∀ (k:Nat) (l:Int),(lowL ar)[k]?=some l→-1000000≤l:=by
 have:∀ (ar:List Int),∀ x∈lowL ar,0≤x:=by
  intro ar
  induction ar with
  | nil=>intro x hx;simp [lowL] at hx
  | cons n ar ih=>
   intro x hx;rw [lowL] at hx;rcases List.mem_append.1 hx with hx | hx
   .rcases List.mem_cons.1 hx with rfl | hx
    .omega
    .rw [(List.mem_replicate.1 hx).2];omega
   .exact ih x hx
 intro k l hl;have:=this ar l (List.mem_of_getElem? hl);omega
theorem c_sOrientsB {v0 v1:Value} {s:Sy} {ps:List Pl} {b:Bool} {w:World} (hb:polyOrients s ps=b) (h0:RdSyC w v0 s) (h1:RdPs w v1 ps) :
 Calls Tryz.prog 14 #[v0,v1] w fun e w'=>e=.returned (.bool b)∧Ext w w':=by subst hb;exact c_sPolyOrients h0 h1
theorem z16q49 {p:Prop} (h:p:=by (first | (first | (with_reducible exact RdI.mk (RI.ext (Hid.out (by with_reducible assumption)) extX)) | (with_reducible exact RdI.ext (by with_reducible assumption) extX)) | (with_reducible exact RdSyK.mk (by (first | (with_reducible exact RI.ext (Hid.out (by with_reducible assumption)) extX))) (RR.ext (Hid.out (by with_reducible assumption)) extX)) | (with_reducible exact RdSyK.ext (by with_reducible assumption) extX) | (with_reducible exact RdPs.mk (RP.ext (Hid.out (by with_reducible assumption)) extX)) | (with_reducible exact RdPs.ext (by with_reducible assumption) extX) | (with_reducible exact RdPl.mk (by (first | (with_reducible exact RI.ext (Hid.out (by with_reducible assumption)) extX)))) | (with_reducible exact RdPl.ext (by with_reducible assumption) extX) | (with_reducible exact RdSig.mk (by (first | (with_reducible exact RI.ext (Hid.out (by with_reducible assumption)) extX)))) | (with_reducible exact RdSig.ext (by with_reducible assumption) extX))):p:=h
theorem c_sFirstPolys {v0:Value} {s:Sy} {most:Int} {ps:List Pl} {bb:Bool} {w:World} (hps:fpoV s most=ps) (hbb:(fpoO s most).isSome=bb) (h0:RdSyC w v0 s) :
 Calls Tryz.prog 52 #[v0,.int .i64 most] w (NewFs w ps bb):=by
 obtain ⟨A0,n0,c0,B0,m0,d0,rfl,ha,hb⟩:=h0;have HA:=Zh ha;have HB:=Zh hb;obtain ⟨o,ho⟩:∃ o,fpoO s most=o:=⟨_,rfl⟩;have HPS:=Zh (show (o.map (polysOf s.ar)).getD []=ps by rw [← ho];exact hps);have HBB:=Zh (show o.isSome=bb by rw [← ho];exact hbb);have HO:=Zh ho;obtain ⟨tw,htw⟩:∃ t,triW s.ar most=t:=⟨_,rfl⟩;obtain ⟨tp,htp⟩:∃ t,triP s.ar most=t:=⟨_,rfl⟩;have HTP:=Zh htp;have HC:=Zh (show ∀ (v:Value) (w:World),RdSig w v s.ar→Calls Tryz.prog 79 #[v,.int .i64 most] w fun e w'=>e=.returned (.tuple #[.int .i64 tw,.int .i64 tp])∧Ext w w' from fun v w h=>by rw [← htw,← htp];exact c_sTriesFor h);clear ha hb hps hbb ho htw htp;cases hs:sysOk s with
 | false=>
  have HN:=Zh (show o=none by rw [← HO.out];exact fpoO_no (fun h=>by rw [hs] at h;cases h.1));go_enter Tryz.func52,Tryz.ntmps52;go_wp2_with fail
  (with_reducible refine (HC.out _ _ z16q49).mono ?_);rintro e w1 ⟨rfl,hE1⟩;have hz1:=Zs hE1;obtain ⟨hc1,hf1⟩:=bcell hE1;(try have hq1_0:w.heap.size < w1.heap.size:=Zo);go_wp2_with fail
  (with_reducible refine (c_sSysOkP hs z16q49).mono ?_);rintro e w2 ⟨rfl,hE2⟩;have hz2:=Zs hE2;obtain ⟨hc2,hf2⟩:=bcell hE2;have hEe:=hE2;go_wp2_with fail;refine bodyPost_ret (v:=.tuple #[.slice (some ⟨w2.heap.size,0,none⟩) 0 0,.bool false]) (by simp [results,Tryz.results52,go_sem]) rfl ?_;have hp0:ps=[]:=x1q49;have hb0:bb=false:=x2q49;have hE02:Ext w w2:=extX;subst hp0;subst hb0;exact ⟨_,0,0,rfl,OwD.none0 (w:=w2) hE02.size,hE02.alloc _⟩
 | true=>
  by_cases htn:tp < 0
  .have HN:=Zh (show o=none by rw [← HO.out];exact fpoO_no (fun h=>by have:=HTP.out;omega));have htd:decide (tp < 0)=true:=by simpa using htn
   go_enter Tryz.func52,Tryz.ntmps52;go_wp2_with fail
   (with_reducible refine (HC.out _ _ z16q49).mono ?_);rintro e w1 ⟨rfl,hE1⟩;have hz1:=Zs hE1;obtain ⟨hc1,hf1⟩:=bcell hE1;(try have hq1_0:w.heap.size < w1.heap.size:=Zo);go_wp2_with fail
   (with_reducible refine (c_sSysOkP hs z16q49).mono ?_);rintro e w2 ⟨rfl,hE2⟩;have hz2:=Zs hE2;obtain ⟨hc2,hf2⟩:=bcell hE2;go_wp2_with fail;refine bodyPost_ret (v:=.tuple #[.slice (some ⟨w2.heap.size,0,none⟩) 0 0,.bool false]) (by simp [results,Tryz.results52,go_sem]) rfl ?_;have hp0:ps=[]:=x1q49;have hb0:bb=false:=x2q49;have hE02:Ext w w2:=extX;subst hp0;subst hb0;exact ⟨_,0,0,rfl,OwD.none0 (w:=w2) hE02.size,hE02.alloc _⟩
  .have htd:decide (tp < 0)=false:=by simpa using htn
   have hm:1≤most∧most≤3:=triP_in (by rw [HTP.out];omega);have hsp:=sysOk_iff.1 hs;have hsg:SigP s.ar:=hsp.1;have h8:s.ar.length≤8:=hsg.2.1;have HS3:=Zh (show ∀ n∈s.ar,0≤n∧n≤3 from fun n hn=>hsg.2.2 n hn);have HSO:=Zh hs;have HW0:=Zh (OnWay.start (T:=TF s) (o:=o) (lowL_btw hm.1 s.ar) (by rw [← HO.out];unfold fpoO;rw [if_pos ⟨hs,by rw [HTP.out];omega⟩]));obtain ⟨N,hN⟩:∃ N,N=offs s.ar:=⟨_,rfl⟩;rw [← hN] at HW0;have HNN:=Zh hN;have HM:=Zh hm;clear hsp hsg hN;go_enter Tryz.func52,Tryz.ntmps52;go_wp2_with fail
   (with_reducible refine (HC.out _ _ z16q49).mono ?_);rintro e w1 ⟨rfl,hE1⟩;have hz1:=Zs hE1;obtain ⟨hc1,hf1⟩:=bcell hE1;(try have hq1_0:w.heap.size < w1.heap.size:=Zo);go_wp2_with fail
   (with_reducible refine (c_sSysOkP hs z16q49).mono ?_);rintro e w2 ⟨rfl,hE2⟩;have hz2:=Zs hE2;obtain ⟨hc2,hf2⟩:=bcell hE2;obtain ⟨wb,hwb⟩:∃ wb,wb=w.alloc (.cells #[.slice A0 n0 c0,.slice B0 m0 d0] 32):=⟨_,rfl⟩;have hb1:wb.cell? ⟨w.heap.size,1,none⟩=some (.slice B0 m0 d0):=x0q49;have hb0:wb.cell? ⟨w.heap.size,0,none⟩=some (.slice A0 n0 c0):=x0q49;have HEwb:=Zh (show Ext w wb by rw [hwb];exact extX);have hEb2:Ext wb w2:=by rw [hwb];exact extX
   have k0:=Ext.keep hEb2 hb0;have k1:=Ext.keep hEb2 hb1;have HE2:=Zh hEb2;clear hwb hE1 hE2 hEb2;go_wp2_with fail
   (with_reducible refine (c_l16Least (RdSig.mk (RI.ext HA.out (Ext.trans HEwb.out HE2.out))) h8 HS3.out).mono ?_);rintro e w3 ⟨LA,ln,lc,rfl,hL3,hE3⟩;have hln:ln=N:=by rw [← hL3.len,lowL_len];exact HNN.out.symm
   subst hln;have HL3:=Zh hL3.ri;have HE3:=Zh (Ext.trans HE2.out hE3);clear hL3;go_wp2_with fail
   (with_reducible refine (c_l1Copy HL3.out).mono ?_);rintro e w4 ⟨XA,xn,xc,rfl,hX4,hE4⟩;have hxn:xn=ln:=by have h1:=hX4.len;have h2:=HL3.out.len;omega
   subst hxn;have hcp4:=hX4.cap;have HX4:=Zh hX4.ri;have HL4:=Zh (RI.ext HL3.out hE4);have HE4:=Zh (Ext.trans HE3.out hE4);clear hX4 HL3 k0 k1;go_wp2_with fail;go_loopw [9,10] (fun lv mv wr=>∃ more:Bool,mv=.bool more∧(∃ A c,lv=.slice A xn c∧Hid ((xn≤c∧c≤9223372036854775807)∧(more=true→∃ k xs,RI wr A xn xs∧OnWay (TF s) (lowL s.ar) (List.replicate xn most) o k xs)∧(more=false→o=none)))∧Hid (Ext w4 wr)) (fun lv mv wr=>spMeas (TF s) (lowL s.ar) (List.replicate xn most) o xn lv mv wr)
   case atStart=>exact ⟨true,rfl,⟨XA,xc,rfl,Zh ⟨hcp4,fun _=>⟨_,_,HX4.out,HW0.out⟩,fun h=>by cases h⟩⟩,Zh (Ext.refl _)⟩
   case round=>
    obtain ⟨more,rfl,⟨A,c,rfl,hI⟩,hEr⟩:=hrel;have hErb:=Ext.trans HE4.out hEr.out;have HErw:=Zh (Ext.trans HEwb.out hErb);have k0:=Ext.keep hErb hb0;have k1:=Ext.keep hErb hb1;cases more with
    | false=>
     have HN:=Zh (hI.out.2.2 rfl);go_wp2_with fail;refine bodyPost_ret (v:=.tuple #[.slice (some ⟨wr.heap.size,0,none⟩) 0 0,.bool false]) (by simp [results,Tryz.results52,go_sem]) rfl ?_;have hp0:ps=[]:=x1q49;have hb0:bb=false:=x2q49;subst hp0;subst hb0;exact ⟨_,0,0,rfl,OwD.none0 (w:=wr) HErw.out.size,HErw.out.alloc _⟩
    | true=>
     have hcp:=hI.out.1;have hex:∃ k,∃ A' c' xs,Value.slice A xn c=.slice A' xn c'∧RI wr A' xn xs∧OnWay (TF s) (lowL s.ar) (List.replicate xn most) o k xs:=by
      obtain ⟨k,xs,h1,h2⟩:=hI.out.2.1 rfl;exact ⟨k,A,c,xs,rfl,h1,h2⟩
     obtain ⟨⟨A',c',xs,e',hX,hW⟩,_⟩:=leastOf_spec hex;cases e';have HX:=Zh hX;have HW:=Zh hW;have hor:=orients_at HSO.out HM.out (by have:=hW.btw;rwa [HNN.out] at this);have HOR:=Zh hor.2;clear hX hW hex hor;go_wp2_with fail
     (with_reducible refine (c_l16Polys (RdSig.mk (RI.ext HA.out HErw.out)) h8 HS3.out HX.out HNN.out hcp).mono ?_);rintro e w5 ⟨PA,pn,pc,rfl,hP5,hE5⟩;have hE5b:=Ext.trans hErb hE5;have HE5w:=Zh (Ext.trans HErw.out hE5);have HP5:=Zh hP5;have HR5:=Zh (OwQ.rp (OwD.q hP5));have m0:=Ext.keep hE5b hb0;have m1:=Ext.keep hE5b hb1;obtain ⟨g,hg⟩:∃ g,polyOrients s (polysOf s.ar xs)=g:=⟨_,rfl⟩;have HG:=Zh hg;have hgt:g=polyAll true s (polysOf s.ar xs):=by rw [← hg];exact HOR.out
     have HGT:=Zh hgt;clear hP5 k0 k1 hg hgt;go_wp2_with fail
     (with_reducible refine (c_sOrientsB HG.out (RdSyK.mk (RI.ext HA.out HE5w.out) (RR.ext HB.out HE5w.out)) (RdPs.mk HR5.out)).mono ?_);rintro e w6 ⟨rfl,hE6⟩;have HE6:=Zh (Ext.trans hEr.out (Ext.trans hE5 hE6));have HE6w:=Zh (Ext.trans HE5w.out hE6);cases g with
     | true=>
      have ho:o=some xs:=HW.out.yes HGT.out.symm;go_wp2_with fail;refine bodyPost_ret (v:=.tuple #[.slice PA pn pc,.bool true]) (by simp [results,Tryz.results52,go_sem]) rfl ?_;have hp0:ps=polysOf s.ar xs:=by rw [← HPS.out,ho];rfl
      have hb0:bb=true:=by rw [← HBB.out,ho];rfl
      subst hp0;subst hb0;exact ⟨PA,pn,pc,rfl,((HP5.out.ext hE6).mono hE6.size).lower HErw.out.size,HE6w.out⟩
     | false=>
      have hgo:¬ TF s xs:=fun h=>by have h2:polyAll true s (polysOf s.ar xs)=true:=h;rw [← HGT.out] at h2;cases h2
      rcases hup:up xs (lowL s.ar) (List.replicate xn most) with ⟨ys,b2⟩
      have HUP:=Zh hup;have HNX:=Zh (show (b2=true→∃ m,m < leastOf (fun k=>∃ A' c' xs,Value.slice A xn c=.slice A' xn c'∧RI wr A' xn xs∧OnWay (TF s) (lowL s.ar) (List.replicate xn most) o k xs)∧OnWay (TF s) (lowL s.ar) (List.replicate xn most) o m ys)∧(b2=false→o=none) from ⟨fun e=>by subst e;exact HW.out.next hgo hup,fun e=>by subst e;exact HW.out.stop hgo hup⟩);clear hup m0 m1;go_wp2_with fail
      (with_reducible refine (c_l16Next HUP.out (RI.ext HX.out (Ext.trans hE5 hE6)) (RI.ext HL4.out HE6.out) HW.out.btw HM.out (low_ge s.ar most)).mono ?_);rintro e w7 ⟨YA,yc,rfl,hY7,hE7⟩;have HY7:=Zh hY7;have HE7:=Zh (Ext.trans HE6.out hE7);clear hY7;go_wp2_with fail;go_roundw
      case rel=>exact ⟨b2,rfl,⟨YA,yc,rfl,Zh ⟨HY7.out.cap,fun e=>by
       obtain ⟨m,_,hm⟩:=HNX.out.1 e;exact ⟨m,ys,HY7.out.ri,hm⟩,HNX.out.2⟩⟩,HE7⟩
      case measure=>
       rw [spMeas_t];cases b2 with
       | false=>rw [spMeas_f];omega
       | true=>
        rw [spMeas_t];obtain ⟨m,hm1',hm2⟩:=HNX.out.1 rfl;have:=leastOf_le (R:=fun k=>∃ A' c' xs,Value.slice YA xn yc=.slice A' xn c'∧RI w7 A' xn xs∧OnWay (TF s) (lowL s.ar) (List.replicate xn most) o k xs) ⟨YA,yc,ys,rfl,HY7.out.ri,hm2⟩;omega

