/- -/
import Derived.Test.YtdlgjhngndpgoaaGreatQ41
set_option maxRecDepth 100000
set_option maxHeartbeats 16000000
set_option linter.all false
namespace Go.Proofs.YtdlgjhngndpgoaaGreat
theorem x0q42 {p:Prop} (h:p:=by rw [hwb];exact Ext.trans hE1 hE2):p:=h
open Go.RowKit
noncomputable def fwO (s:Sy) (most:Int):Option (List Int):=
 @ite _ (sysOk s=true∧0≤triW s.ar most) (Classical.propDecidable _) (srch (TW s s.ar.length) (List.replicate s.ar.length 0) (List.replicate s.ar.length most) (cnt (List.replicate s.ar.length 0) (List.replicate s.ar.length most) - rkU (List.replicate s.ar.length 0) (List.replicate s.ar.length 0) (List.replicate s.ar.length most)) (List.replicate s.ar.length 0)) none
theorem fwO_no {s:Sy} {most:Int} (h:¬ (sysOk s=true∧0≤triW s.ar most)):fwO s most=none:=if_neg h
noncomputable def fwOf (s:Sy):Option (List Int)→Wt
 | none=>⟨0,[],[]⟩
 | some sym=>⟨1,sym,(rkO s sym s.ar.length).getD []⟩
noncomputable def fwW (s:Sy) (most:Int):Wt:=fwOf s (fwO s most)
theorem triW_in {ar:List Int} {most:Int} (h:0≤triW ar most):1≤most∧most≤3:=by
 unfold triW at h;split at h
 .rename_i h1;exact h1.2
 .omega
theorem triW_out {ar:List Int} {most:Int} (h:inB most 1 3=false):triW ar most = -1:=by
 unfold triW;rw [if_neg];rintro ⟨_,h1,h2⟩;unfold inB at h;simp at h;omega
theorem zero_btw {most:Int} (h1:1≤most) (n:Nat):Btw (List.replicate n 0) (List.replicate n 0) (List.replicate n most):=by
 induction n with
 | zero=>simp [Btw]
 | succ n ih=>rw [List.replicate_succ,List.replicate_succ];exact ⟨Zo,ih⟩
theorem rep_big {most:Int} (hm:most≤3) (n:Nat):(∀ (k:Nat) (h:Int),(List.replicate n most)[k]?=some h→h≤1000000)∧∀ (k:Nat) (l:Int),(List.replicate n (0:Int))[k]?=some l→-1000000≤l:=by
 refine ⟨fun k h hk=>?_,fun k l hk=>?_⟩
 .rw [List.getElem?_replicate] at hk;split at hk
  .cases hk;omega
  .cases hk
 .rw [List.getElem?_replicate] at hk;split at hk
  .cases hk;omega
  .cases hk
def NewWf (w:World) (W:Wt) (b:Bool) (e:Ending) (w':World):Prop:=∃ A n c B m d,e=.returned (.tuple #[.agg #[.int .i64 W.var,.slice A n c,.slice B m d],.bool b])∧OwI w' w.heap.size A n c W.sym∧OwI w' w.heap.size B m d W.rank∧(∀ g o s,A=some ⟨g,o,s⟩→∀ g' o' s',B=some ⟨g',o',s'⟩→g≠g')∧Ext w w'
def NewWr (w:World) (W:Wt) (b:Bool) (e:Ending) (w':World):Prop:=∃ A n c B m d,e=.returned (.tuple #[.agg #[.int .i64 W.var,.slice A n c,.slice B m d],.bool b])∧RI w' A n W.sym∧RI w' B m W.rank∧Ext w w'
noncomputable def swMeas (T:List Int→Prop) (ls hs:List Int) (o:Option (List Int)) (N:Nat) (lv mv:Value) (w:World):Nat:=match mv with
 | .bool true=>leastOf (fun k=>∃ A c xs,lv=.slice A N c∧RI w A N xs∧OnWay T ls hs o k xs)+1
 | _=>0
theorem swMeas_t {T:List Int→Prop} {ls hs:List Int} {o:Option (List Int)} {N:Nat} {lv:Value} {w:World}:swMeas T ls hs o N lv (.bool true) w=leastOf (fun k=>∃ A c xs,lv=.slice A N c∧RI w A N xs∧OnWay T ls hs o k xs)+1:=rfl
theorem swMeas_f {T:List Int→Prop} {ls hs:List Int} {o:Option (List Int)} {N:Nat} {lv:Value} {w:World}:swMeas T ls hs o N lv (.bool false) w=0:=rfl
theorem c_sFirstWeights {v0:Value} {s:Sy} {most:Int} {W:Wt} {bb:Bool} {w:World} (hW:fwW s most=W) (hbb:(fwO s most).isSome=bb) (h0:RdSyC w v0 s) :
 Calls Tryz.prog 51 #[v0,.int .i64 most] w (NewWr w W bb):=by
 obtain ⟨A0,n0,c0,B0,m0,d0,rfl,ha,hb⟩:=h0;have HA:=Zh ha;have HB:=Zh hb;have hn0:=ha.len;obtain ⟨o,ho⟩:∃ o,fwO s most=o:=⟨_,rfl⟩;have HWW:=Zh (show fwOf s o=W by rw [← hW,← ho];rfl);have HBB:=Zh (show o.isSome=bb by rw [← ho];exact hbb);have HO:=Zh ho;obtain ⟨tw,htw⟩:∃ t,triW s.ar most=t:=⟨_,rfl⟩;obtain ⟨tp,htp⟩:∃ t,triP s.ar most=t:=⟨_,rfl⟩;have HTW:=Zh htw;have HC:=Zh (show ∀ (v:Value) (w:World),RdSig w v s.ar→Calls Tryz.prog 79 #[v,.int .i64 most] w fun e w'=>e=.returned (.tuple #[.int .i64 tw,.int .i64 tp])∧Ext w w' from fun v w h=>by rw [← htw,← htp];exact c_sTriesFor h);have HNO:=Zh (show o=none→∀ {w':World},Ext w w'→NewWr w W bb (.returned (.tuple #[.agg #[.int .i64 0,.slice none 0 0,.slice none 0 0],.bool false])) w' from fun h w' hE=>by
  have hp0:W=⟨0,[],[]⟩:=by rw [← HWW.out,h];rfl
  have hb0:bb=false:=by rw [← HBB.out,h];rfl
  subst hp0;subst hb0;exact ⟨none,0,0,none,0,0,rfl,RI.nil _ _,RI.nil _ _,hE⟩)
 obtain ⟨i0,hii,hiz,his,hib⟩:=info_parts int64_info;clear ha hb hW hbb ho htw htp;cases hs:sysOk s with
 | false=>
  have HN:=Zh (show o=none by rw [← HO.out];exact fwO_no (fun h=>by rw [hs] at h;cases h.1));go_enter Tryz.func51,Tryz.ntmps51;go_wp2_with fail
  (with_reducible refine (HC.out _ _ z15q40).mono ?_);rintro e w1 ⟨rfl,hE1⟩;have hz1:=Zs hE1;obtain ⟨hc1,hf1⟩:=bcell hE1;(try have hq1_0:w.heap.size < w1.heap.size:=Zo);(try have hq1_1:w.heap.size+1 < w1.heap.size:=Zo);go_wp2_with fail
  (with_reducible refine (c_sSysOkP hs z15q40).mono ?_);rintro e w2 ⟨rfl,hE2⟩;have hz2:=Zs hE2;obtain ⟨hc2,hf2⟩:=bcell hE2;(try have hq2_0:w.heap.size < w2.heap.size:=Zo);have hEw2:Ext w w2:=Ext.trans (Ext.trans (((Ext.refl w).alloc _).alloc _) hE1) hE2;obtain ⟨wb,hwb⟩:∃ wb,wb=(w.alloc (.cells #[.slice A0 n0 c0,.slice B0 m0 d0] 32)).alloc (.cells #[.int .i64 0,.slice none 0 0,.slice none 0 0] 35):=⟨_,rfl⟩;have hEb2:Ext wb w2:=x0q42;have HZ:=Zh (show B3 wb (w.heap.size+1) (.int .i64 0) (.slice none 0 0) (.slice none 0 0) by rw [hwb];exact B3.new _ _ _ _ _ (by simp [go_sem]));have hZ2:=HZ.out.ext hEb2;have z0:=hZ2.c0;have z1:=hZ2.c1;have z2:=hZ2.c2;have zf:=hZ2.fr;clear hZ2;go_wp2_with fail;refine bodyPost_ret (v:=.tuple #[.agg #[.int .i64 0,.slice none 0 0,.slice none 0 0],.bool false]) (by simp [results,Tryz.results51,go_sem,z0,z1,z2,zf]) rfl ?_;exact HNO.out HN.out (((hEw2.set (by simp) _).set (by simp) _).set (by simp) _)
 | true=>
  by_cases htn:tw < 0
  .have HN:=Zh (show o=none by rw [← HO.out];exact fwO_no (fun h=>by have:=HTW.out;omega));have htd:decide (tw < 0)=true:=by simpa using htn
   go_enter Tryz.func51,Tryz.ntmps51;go_wp2_with fail
   (with_reducible refine (HC.out _ _ z15q40).mono ?_);rintro e w1 ⟨rfl,hE1⟩;have hz1:=Zs hE1;obtain ⟨hc1,hf1⟩:=bcell hE1;(try have hq1_0:w.heap.size < w1.heap.size:=Zo);(try have hq1_1:w.heap.size+1 < w1.heap.size:=Zo);go_wp2_with fail
   (with_reducible refine (c_sSysOkP hs z15q40).mono ?_);rintro e w2 ⟨rfl,hE2⟩;have hz2:=Zs hE2;obtain ⟨hc2,hf2⟩:=bcell hE2;(try have hq2_0:w.heap.size < w2.heap.size:=Zo);have hEw2:Ext w w2:=Ext.trans (Ext.trans (((Ext.refl w).alloc _).alloc _) hE1) hE2;obtain ⟨wb,hwb⟩:∃ wb,wb=(w.alloc (.cells #[.slice A0 n0 c0,.slice B0 m0 d0] 32)).alloc (.cells #[.int .i64 0,.slice none 0 0,.slice none 0 0] 35):=⟨_,rfl⟩;have hEb2:Ext wb w2:=x0q42;have HZ:=Zh (show B3 wb (w.heap.size+1) (.int .i64 0) (.slice none 0 0) (.slice none 0 0) by rw [hwb];exact B3.new _ _ _ _ _ (by simp [go_sem]));have hZ2:=HZ.out.ext hEb2;have z0:=hZ2.c0;have z1:=hZ2.c1;have z2:=hZ2.c2;have zf:=hZ2.fr;clear hZ2;go_wp2_with fail;refine bodyPost_ret (v:=.tuple #[.agg #[.int .i64 0,.slice none 0 0,.slice none 0 0],.bool false]) (by simp [results,Tryz.results51,go_sem,z0,z1,z2,zf]) rfl ?_;exact HNO.out HN.out (((hEw2.set (by simp) _).set (by simp) _).set (by simp) _)
  .have htd:decide (tw < 0)=false:=by simpa using htn
   have hm:1≤most∧most≤3:=triW_in (by rw [HTW.out];omega);have hsp:=sysOk_iff.1 hs;have hsg:SigP s.ar:=hsp.1;have h8:n0≤8:=by rw [← hn0];exact hsg.2.1
   have HW0:=Zh (OnWay.start (T:=TW s s.ar.length) (o:=o) (zero_btw hm.1 s.ar.length) (by rw [← HO.out];unfold fwO;rw [if_pos ⟨hs,by rw [HTW.out];omega⟩]));rw [hn0] at HW0;have HNN:=Zh hn0;have HM:=Zh hm;clear hsp hsg hn0;go_enter Tryz.func51,Tryz.ntmps51;go_wp2_with fail
   (with_reducible refine (HC.out _ _ z15q40).mono ?_);rintro e w1 ⟨rfl,hE1⟩;have hz1:=Zs hE1;obtain ⟨hc1,hf1⟩:=bcell hE1;(try have hq1_0:w.heap.size < w1.heap.size:=Zo);(try have hq1_1:w.heap.size+1 < w1.heap.size:=Zo);go_wp2_with fail
   (with_reducible refine (c_sSysOkP hs z15q40).mono ?_);rintro e w2 ⟨rfl,hE2⟩;have hz2:=Zs hE2;obtain ⟨hc2,hf2⟩:=bcell hE2;(try have hq2_0:w.heap.size < w2.heap.size:=Zo);obtain ⟨wb,hwb⟩:∃ wb,wb=(w.alloc (.cells #[.slice A0 n0 c0,.slice B0 m0 d0] 32)).alloc (.cells #[.int .i64 0,.slice none 0 0,.slice none 0 0] 35):=⟨_,rfl⟩;have hb0:wb.cell? ⟨w.heap.size,0,none⟩=some (.slice A0 n0 c0):=by rw [hwb];simp [go_sem]
   have hb1:wb.cell? ⟨w.heap.size,1,none⟩=some (.slice B0 m0 d0):=by rw [hwb];simp [go_sem]
   have HZ:=Zh (show B3 wb (w.heap.size+1) (.int .i64 0) (.slice none 0 0) (.slice none 0 0) by rw [hwb];exact B3.new _ _ _ _ _ (by simp [go_sem]));have HEwb:=Zh (show Ext w wb by rw [hwb];exact ((Ext.refl w).alloc _).alloc _);have hbs:wb.heap.size=w.heap.size+2:=by rw [hwb];simp [go_sem]
   have HBS:=Zh hbs;have hEb2:Ext wb w2:=x0q42;have k0:=Ext.keep hEb2 hb0;have k1:=Ext.keep hEb2 hb1;have HE2:=Zh hEb2;clear hwb hbs hE1 hE2 hEb2;go_wp2_with (at_make;refine wpList_make_full _ rfl _ _ 27 rfl w2.heap.size 2 i0 _ 1 Tryz.underlying27 hii hiz his _ _ _ _ n0 rfl rfl rfl rfl (by rw [hib];omega) (by simp only [maxLen];omega) (Nat.le_refl _) ?_)
   intro w3 hown0 hg3;rw [madeInts] at hown0;have hown:=OwI.made hown0 Zo;have hE3:Ext w2 w3:=Ext.grown (Ext.refl _) hg3 (fun k hk=>by cases hk);have HL3:=Zh hown.ri;have HE3:=Zh (Ext.trans HE2.out hE3);clear hown0 hg3 hown k0 k1;go_wp2_with fail
   (with_reducible refine (c_l1Copy HL3.out).mono ?_);rintro e w4 ⟨XA,xn,xc,rfl,hX4,hE4⟩;have hxn:xn=n0:=by have h1:=hX4.len;rw [List.length_replicate] at h1;exact h1.symm
   subst hxn;have hcp4:=hX4.cap;have HX4:=Zh hX4.ri;have HF4:=Zh (show ∀ b o s,XA=some ⟨b,o,s⟩→wb.heap.size≤b from fun b o s e=>by have:=(hX4.bd b o s e).1;have:=HE3.out.size;omega);have HL4:=Zh (RI.ext HL3.out hE4);have HE4:=Zh (Ext.trans HE3.out hE4);clear hX4 HL3;go_wp2_with fail;go_loopw [9,10] (fun lv mv wr=>∃ more:Bool,mv=.bool more∧(∃ A c,lv=.slice A xn c∧Hid ((xn≤c∧c≤9223372036854775807)∧(∀ b o s,A=some ⟨b,o,s⟩→wb.heap.size≤b)∧(more=true→∃ k xs,RI wr A xn xs∧OnWay (TW s xn) (List.replicate xn 0) (List.replicate xn most) o k xs)∧(more=false→o=none)))∧Hid (Ext w4 wr)) (fun lv mv wr=>swMeas (TW s xn) (List.replicate xn 0) (List.replicate xn most) o xn lv mv wr)
   case atStart=>exact ⟨true,rfl,⟨XA,xc,rfl,Zh ⟨hcp4,HF4.out,fun _=>⟨_,_,HX4.out,HW0.out⟩,fun h=>by cases h⟩⟩,Zh (Ext.refl _)⟩
   case round=>
    obtain ⟨more,rfl,⟨A,c,rfl,hI⟩,hEr⟩:=hrel;have hErb:=Ext.trans HE4.out hEr.out;have HErw:=Zh (Ext.trans HEwb.out hErb);have k0:=Ext.keep hErb hb0;have k1:=Ext.keep hErb hb1;have HZr:=Zh (HZ.out.ext hErb);cases more with
    | false=>
     have HN:=Zh (hI.out.2.2.2 rfl);have z0:=HZr.out.c0;have z1:=HZr.out.c1;have z2:=HZr.out.c2;have zf:=HZr.out.fr;go_wp2_with fail;refine bodyPost_ret (v:=.tuple #[.agg #[.int .i64 0,.slice none 0 0,.slice none 0 0],.bool false]) (by simp [results,Tryz.results51,go_sem,z0,z1,z2,zf]) rfl ?_;exact HNO.out HN.out (((HErw.out.set (by simp) _).set (by simp) _).set (by simp) _)
    | true=>
     have HFA:=Zh hI.out.2.1;have hex:∃ k,∃ A' c' xs,Value.slice A xn c=.slice A' xn c'∧RI wr A' xn xs∧OnWay (TW s xn) (List.replicate xn 0) (List.replicate xn most) o k xs:=by
      obtain ⟨k,xs,h1,h2⟩:=hI.out.2.2.1 rfl;exact ⟨k,A,c,xs,rfl,h1,h2⟩
     obtain ⟨⟨A',c',xs,e',hX,hW⟩,_⟩:=leastOf_spec hex;have e1:A=A':=by cases e';rfl
     subst e1;clear e';have HX:=Zh hX;have HW:=Zh hW;obtain ⟨o2,ho2⟩:∃ o2,rkO s xs xn=o2:=⟨_,rfl⟩;have HO2:=Zh ho2;clear hX hW hex ho2;go_wp2_with fail
     (with_reducible refine (c_l16Ranked HO2.out (RdSyK.mk (RI.ext HA.out HErw.out) (RR.ext HB.out HErw.out)) HX.out h8).mono ?_);rintro e w5 ⟨hout,hE5⟩;have HE5:=Zh (Ext.trans hEr.out hE5);have HE5w:=Zh (Ext.trans HErw.out hE5);have HX5:=Zh (RI.ext HX.out hE5);have HZ5:=Zh (HZr.out.ext hE5);clear k0 k1;cases o2 with
     | some rk=>
      obtain ⟨RA,rn,rc,rfl,hR5,hRF⟩:=hout;have ho:o=some xs:=HW.out.yes (show (rkO s xs xn).isSome=true by rw [HO2.out];rfl);have hE56:Ext w5 (w5.alloc (.cells #[.int .i64 1,.slice A xn c,.slice RA rn rc] 35)):=(Ext.refl w5).alloc _;have HX6:=Zh (RI.ext HX5.out hE56);have HR6:=Zh (RI.ext hR5 hE56);have HE6w:=Zh (Ext.trans HE5w.out hE56);have hZ6:=HZ5.out.ext hE56;have z0:=hZ6.c0;have z1:=hZ6.c1;have z2:=hZ6.c2;have zf:=hZ6.fr;have y0:=HZ5.out.c0;have y1:=HZ5.out.c1;have y2:=HZ5.out.c2;have yf:=HZ5.out.fr;have hyl:=HZ5.out.lt;have HSR:=Zh (show wb.heap.size≤wr.heap.size from hErb.size);have HR5:=Zh hR5;clear hZ6 hR5;go_wp2_with fail;refine bodyPost_ret (v:=.tuple #[.agg #[.int .i64 1,.slice A xn c,.slice RA rn rc],.bool true]) (by simp [results,Tryz.results51,go_sem,y0,y1,y2,yf,hyl]) rfl ?_;have hWt:W=⟨1,xs,rk⟩:=by rw [← HWW.out,ho];show (⟨1,xs,(rkO s xs s.ar.length).getD []⟩:Wt)=_;rw [HNN.out,HO2.out];rfl
      have hb0':bb=true:=by rw [← HBB.out,ho];rfl
      subst hWt;subst hb0';have f1:xn=0∨∀ b o s,A=some ⟨b,o,s⟩→b≠w.heap.size+1:=.inr fun b o s e=>by have:=HFA.out b o s e;have:=HBS.out;omega
      have f2:rn=0∨∀ b o s,RA=some ⟨b,o,s⟩→b≠w.heap.size+1:=hRF.imp id fun h b o s e=>by have:=h b o s e;have:=HBS.out;have:=HSR.out;omega
      first
       | exact ⟨A,xn,c,RA,rn,rc,rfl,RI.ext (((HX5.out.setW _ f1).setW _ f1).setW _ f1) ((Ext.refl _).alloc _),RI.ext (((HR5.out.setW _ f2).setW _ f2).setW _ f2) ((Ext.refl _).alloc _),(((HE5w.out.set (by simp) _).set (by simp) _).set (by simp) _).alloc _⟩
       | exact ⟨A,xn,c,RA,rn,rc,rfl,((HX6.out.setW _ f1).setW _ f1).setW _ f1,((HR6.out.setW _ f2).setW _ f2).setW _ f2,((HE6w.out.set (by simp) _).set (by simp) _).set (by simp) _⟩
     | none=>
      have hout':e=.returned (.tuple #[.agg #[.int .i64 0,.slice none 0 0,.slice none 0 0],.bool false]):=hout;subst hout';clear hout;have hgo:¬ TW s xn xs:=fun h=>by have h2:(rkO s xs xn).isSome=true:=h;rw [HO2.out] at h2;cases h2
      rcases hup:up xs (List.replicate xn 0) (List.replicate xn most) with ⟨ys,b2⟩
      have HUP:=Zh hup;have HNX:=Zh (show (b2=true→∃ m,m < leastOf (fun k=>∃ A' c' xs,Value.slice A xn c=.slice A' xn c'∧RI wr A' xn xs∧OnWay (TW s xn) (List.replicate xn 0) (List.replicate xn most) o k xs)∧OnWay (TW s xn) (List.replicate xn 0) (List.replicate xn most) o m ys)∧(b2=false→o=none) from ⟨fun e=>by subst e;exact HW.out.next hgo hup,fun e=>by subst e;exact HW.out.stop hgo hup⟩);obtain ⟨w6,hw6⟩:∃ w6,w6=w5.alloc (.cells #[.int .i64 0,.slice none 0 0,.slice none 0 0] 35):=⟨_,rfl⟩;have hE56:Ext w5 w6:=by rw [hw6];exact extX
      have HE6:=Zh (Ext.trans HE5.out hE56);have HX6:=Zh (RI.ext HX5.out hE56);have HSR:=Zh (show wb.heap.size≤w6.heap.size from by have h1:=hErb.size;have h2:=hE5.size;have h3:=hE56.size;omega);clear hup;go_wp2_with fail;rw [← hw6];clear hw6
      (with_reducible refine (c_l16Next HUP.out HX6.out (RI.ext HL4.out HE6.out) HW.out.btw HM.out (rep_big HM.out.2 xn).2).mono ?_);rintro e w7 ⟨YA,yc,rfl,hY7,hE7⟩;have HY7:=Zh hY7;have HYF:=Zh (show ∀ b o s,YA=some ⟨b,o,s⟩→wb.heap.size≤b from fun b o s e=>by have:=(hY7.bd b o s e).1;have:=HSR.out;omega);have HE7:=Zh (Ext.trans HE6.out hE7);clear hY7;go_wp2_with fail;go_roundw
      case rel=>exact ⟨b2,rfl,⟨YA,yc,rfl,Zh ⟨HY7.out.cap,HYF.out,fun e=>by
       obtain ⟨m,_,hm⟩:=HNX.out.1 e;exact ⟨m,ys,HY7.out.ri,hm⟩,HNX.out.2⟩⟩,HE7⟩
      case measure=>
       rw [swMeas_t];cases b2 with
       | false=>rw [swMeas_f];omega
       | true=>
        rw [swMeas_t];obtain ⟨m,hm1',hm2⟩:=HNX.out.1 rfl;have:=leastOf_le (R:=fun k=>∃ A' c' xs,Value.slice YA xn yc=.slice A' xn c'∧RI w7 A' xn xs∧OnWay (TW s xn) (List.replicate xn 0) (List.replicate xn most) o k xs) ⟨YA,yc,ys,rfl,HY7.out.ri,hm2⟩;omega
def RP (w:World) (A:Option Addr) (n:Nat) (ps:List Pl):Prop:=
 (ps.length=n∧n≤4194304)∧(0 < n→∃ b o,A=some ⟨b,o,none⟩∧∀ j p,ps[j]?=some p→w.cell? ⟨b,o+j * 2,none⟩=some (.int .i64 p.c)∧∃ A' m' c',w.cell? ⟨b,o+j * 2+1,none⟩=some (.slice A' m' c')∧RI w A' m' p.cf)
section
variable {w w':World} {A:Option Addr} {n k:Nat} {ps:List Pl}
theorem RP.len (h:RP w A n ps):ps.length=n:=h.1.1
theorem RP.le (h:RP w A n ps):n≤4194304:=h.1.2
theorem RP.ext (h:RP w A n ps) (k:Ext w w'):RP w' A n ps:=
 ⟨h.1,fun hn=>by
  obtain ⟨b,o,hA,hc⟩:=h.2 hn;refine ⟨b,o,hA,fun j x hx=>?_⟩;obtain ⟨h1,A',m',c',h2,h3⟩:=hc j x hx;exact ⟨Ext.keep k h1,A',m',c',Ext.keep k h2,h3.ext k⟩⟩
theorem RP.at_ (h:RP w A n ps) (hk:k < n):∃ b o p A' m' c',A=some ⟨b,o,none⟩∧ps[k]?=some p∧w.cell? ⟨b,o+k * 2,none⟩=some (.int .i64 p.c)∧w.cell? ⟨b,o+k * 2+1,none⟩=some (.slice A' m' c')∧RI w A' m' p.cf:=by
 obtain ⟨b,o,hA,hc⟩:=h.2 Zo;have hl:k < ps.length:=by rw [h.len];exact hk
 have hx:=List.getElem?_eq_getElem hl;obtain ⟨h1,A',m',c',h2,h3⟩:=hc k _ hx;exact ⟨b,o,ps[k],A',m',c',hA,hx,h1,h2,h3⟩
end
def RdPs (w:World) (v:Value) (ps:List Pl):Prop:=∃ A n c,v=.slice A n c∧RP w A n ps
theorem RdPs.mk {w:World} {A:Option Addr} {n c:Nat} {ps:List Pl} (h:RP w A n ps):RdPs w (.slice A n c) ps:=⟨A,n,c,rfl,h⟩
theorem RdPs.ext {w w':World} {v:Value} {ps:List Pl} (h:RdPs w v ps) (k:Ext w w'):RdPs w' v ps:=by
 obtain ⟨A,n,c,e,h1⟩:=h;exact ⟨A,n,c,e,h1.ext k⟩
def RdPl (w:World) (v:Value) (p:Pl):Prop:=∃ A n c,v=.agg #[.int .i64 p.c,.slice A n c]∧RI w A n p.cf
theorem RdPl.mk {w:World} {A:Option Addr} {n c:Nat} {p:Pl} (h:RI w A n p.cf):RdPl w (.agg #[.int .i64 p.c,.slice A n c]) p:=⟨A,n,c,rfl,h⟩
theorem RdPl.ext {w w':World} {v:Value} {p:Pl} (h:RdPl w v p) (k:Ext w w'):RdPl w' v p:=by
 obtain ⟨A,n,c,e,h1⟩:=h;exact ⟨A,n,c,e,h1.ext k⟩
def NewPl (w:World) (p:Pl) (e:Ending) (w':World):Prop:=∃ A n c,e=.returned (.agg #[.int .i64 p.c,.slice A n c])∧OwI w' w.heap.size A n c p.cf∧Ext w w'
theorem getD_at {xs:List Int} {k:Nat} {x:Int} (h:xs[k]?=some x):nth xs k=x:=by unfold nth;rw [List.getD_eq_getElem?_getD,h];rfl
theorem getD_past {xs:List Int} {k:Nat} (h:xs.length≤k):nth xs k=0:=by unfold nth;rw [List.getD_eq_getElem?_getD,List.getElem?_eq_none h];rfl
theorem c_lineAt {A:Option Addr} {n c k:Nat} {p:Pl} {w:World} (h0:RI w A n p.cf) (hk:k≤4194304) :
 Calls Tryz.prog 141 #[.agg #[.int .i64 p.c,.slice A n c],.int .i64 (k:Int)] w fun e w'=>e=.returned (.int .i64 (nth p.cf k))∧Ext w w':=by
 have hl:=h0.len;by_cases hlt:k < n
 .obtain ⟨b,o,x,rfl,hx,hcx⟩:=RI.at_ h0 hlt;have HX:=Zh (getD_at hx);have hbl:b < w.heap.size:=World.block_lt_of_cell? w _ hcx;have hki:(k:Int) < (n:Int):=by omega
  clear hx h0 hl;go_enter Tryz.func141,Tryz.ntmps141;go_wp2;go_ret;exact ⟨ret_int HX.out.symm,extX⟩
 .have HX:=Zh (getD_past (xs:=p.cf) (k:=k) Zo);have hki:¬ (k:Int) < (n:Int):=by omega
  clear h0 hl;go_enter Tryz.func141,Tryz.ntmps141;go_wp2
  all_goals first
   | (exfalso;omega)
   | (go_ret;exact ⟨ret_int HX.out.symm,extX⟩)
theorem c_coef {A:Option Addr} {n c k:Nat} {p:Pl} {w:World} (h0:RI w A n p.cf) (hk:k≤4194304) :
 Calls Tryz.prog 128 #[.agg #[.int .i64 p.c,.slice A n c],.int .i64 (k:Int)] w fun e w'=>e=.returned (.int .i64 (nth p.cf k))∧Ext w w':=by
 have HA:=Zh h0;clear h0;go_enter Tryz.func128,Tryz.ntmps128;go_wp2_with (go_at_call 141;(with_reducible refine (c_lineAt (p:=p) (RI.ext HA.out extX) hk).mono ?_);rintro e w1 ⟨rfl,hE1⟩)
 go_ret;exact ⟨rfl,extX⟩
theorem mq42 {p:Prop} (h:p:=by simp only [intOf];omega):p:=h
theorem c_atMost {v0 v1:Value} {a b:Pl} {w:World} (h0:RdPl w v0 a) (h1:RdPl w v1 b) :
 Calls Tryz.prog 99 #[v0,v1] w fun e w'=>e=.returned (.tuple #[.bool (most a b && decide (a.c≤b.c)),.bool (most a b && decide (a.c < b.c))])∧Ext w w':=by
 obtain ⟨A,n,c,rfl,ha⟩:=h0;obtain ⟨B,m,d,rfl,hb⟩:=h1;have hn:=ha.le;have HL:=Zh ha.len;have HA:=Zh ha;have HB:=Zh hb;clear ha hb;go_enter Tryz.func99,Tryz.ntmps99;go_wp2_with fail;obtain ⟨wo,hwo⟩:∃ wo,wo=(w.alloc (.cells #[.int .i64 a.c,.slice A n c] 97)).alloc (.cells #[.int .i64 b.c,.slice B m d] 97):=⟨_,rfl⟩;have hw0:wo.cell? ⟨w.heap.size,0,none⟩=some (.int .i64 a.c):=by rw [hwo];simp [go_sem]
 have hw2:wo.cell? ⟨w.heap.size+1,0,none⟩=some (.int .i64 b.c):=by rw [hwo];simp [go_sem]
 have hw3:wo.cell? ⟨w.heap.size+1,1,none⟩=some (.slice B m d):=by rw [hwo];simp [go_sem]
 have hEo:Ext w wo:=by rw [hwo];exact extX
 rw [← hwo];clear hwo;go_loopw [11] (fun i wr=>∃ k:Nat,i=.int .i64 k∧k≤n∧Hid (∀ (j:Nat) (x:Int),j < k→a.cf[j]?=some x→x≤nth b.cf j)∧Ext wo wr) (fun i _=>n - (intOf i).toNat)
 case atStart=>exact ⟨0,rfl,Nat.zero_le _,Zh fun j x hj=>Zo,Ext.refl _⟩
 case round=>
  obtain ⟨k,rfl,hk,hp,hE⟩:=hrel;have hEw:Ext w wr:=Ext.trans hEo hE;have hr0:=Ext.keep hE hw0;have hr2:=Ext.keep hE hw2;have hr3:=Ext.keep hE hw3;by_cases hlt:k < n
  .obtain ⟨b',o',x,rfl,hx,hcx⟩:=RI.at_ (RI.ext HA.out hEw) hlt;have HX:=Zh hx;clear hx;have hlt':(k:Int) < (n:Int):=by omega
   by_cases hxb:nth b.cf k < x
   .have HR:=Zh (most_f HX.out hxb);go_wp2_with (go_at_call 128;(with_reducible refine (c_coef (p:=b) (k:=k) (RI.ext HB.out extX) Zo).mono ?_);rintro e w5 ⟨rfl,hE5⟩)
    go_ret2
    exact ⟨by rw [HR.out];rfl,extX⟩
   .have HP:=Zh (show ∀ (j:Nat) (y:Int),j < k+1→a.cf[j]?=some y→y≤nth b.cf j from fun j y hj e=>by
     rcases Nat.lt_or_ge j k with h | h
     .exact hp.out j y h e
     .obtain rfl:j=k:=by omega
      rw [HX.out] at e;cases e;omega)
    go_wp2_with (go_at_call 128;(with_reducible refine (c_coef (p:=b) (k:=k) (RI.ext HB.out extX) Zo).mono ?_);rintro e w5 ⟨rfl,hE5⟩)
    go_roundw
    case rel=>exact ⟨k+1,by go_num,Zo,HP,extX⟩
    case measure=>exact mq42
  .have HR:=Zh (most_t (a:=a) (b:=b) fun j x hj e=>hp.out j x (by rw [HL.out] at hj;omega) e);go_wp2_with fail;go_quiet (fail)
   go_wp2;go_ret2
   exact ⟨by rw [HR.out];rfl,extX⟩
theorem c_varForm {x:Int} {w:World} (hx:x < 0) (hx2 : -24≤x):Calls Tryz.prog 139 #[.int .i64 x] w (NewPl w (varPl x)):=by
 obtain ⟨m,rfl⟩:∃ m:Nat,x = -((m:Int)+1):=⟨(-x - 1).toNat,Zo⟩;obtain ⟨i0,hi0,hz0,hz1,hz2⟩:=info_parts int64_info;go_enter Tryz.func139,Tryz.ntmps139;go_wp2_with (at_make;refine wpList_make_full _ rfl _ _ 27 rfl (w.heap.size+1) 2 i0 _ 1 Tryz.underlying27 hi0 hz0 hz1 _ _ _ _ (m+1) rfl rfl rfl rfl (by rw [hz2];omega) (by simp only [maxLen];omega) (by go_size) ?_)
 intro w1 hown0 hg;rw [madeInts] at hown0;have hown:=OwI.made hown0 Zo;have hE:Ext (w.alloc (.cells #[.int .i64 0,.slice none 0 0] 97)) w1:=Ext.grown (Ext.refl _) hg (fun k hk=>by cases hk);have hEw:Ext w w1:=Ext.trans ((Ext.refl w).alloc _) hE;obtain ⟨z,hz,hcz,hfz⟩:=OwI.at_ hown (k:=m) Zo;have hr0:w1.cell? ⟨w.heap.size,0,none⟩=some (.int .i64 0):=Ext.keep hE (by simp [go_sem]);have hr1:w1.cell? ⟨w.heap.size,1,none⟩=some (.slice none 0 0):=Ext.keep hE (by simp [go_sem]);have hrf:∀ j,w1.frozen? ⟨w.heap.size,j,none⟩=false:=fun j=>(Below.frozen (p:=⟨w.heap.size,j,none⟩) hE (by simp [go_sem])).trans (by simp [go_sem]);have HO:=Zh hown;have HX:=Zh (show (List.replicate (m+1) (0:Int)).set m 1=(varPl (-((m:Int)+1))).cf from by
  rw [List.replicate_succ',List.set_append_right _ _ (by simp)];simp only [List.length_replicate,Nat.sub_self,List.set_cons_zero,varPl];rw [show (-(-((m:Int)+1))).toNat - 1=m by omega])
 clear hown hown0 hz hg;have hm1:(m:Int) < (m:Int)+1:=by omega
 have hm0:(0:Int)≤(m:Int):=by omega
 have hidx : -1+((m:Int)+1)=(m:Int):=by omega
 go_wp2;refine bodyPost_ret (v:=.agg #[.int .i64 0,.slice (some ⟨w.heap.size+1,0,none⟩) (m+1) (m+1)]) (by simp [results,Tryz.results139,go_sem,hr0,hr1,hrf]) rfl ⟨some ⟨w.heap.size+1,0,none⟩,m+1,m+1,rfl,?_,?_⟩
 .have h1:=HO.out.set m 1;rw [HX.out] at h1;have h2:OwI _ w.heap.size _ _ _ _:=h1.lower (B':=w.heap.size) Zo
  (repeat' (first | (with_reducible exact h2) | (with_reducible refine OwI.setFar ?_ _ (fun g o s e=>?_))))<;>(cases e;simp;try omega)
 .exact extX
theorem c_slicesMax {v:Value} {t:List Int} {w:World} (h0:RdI w v t) (hne:1≤t.length) :
 Calls Tryz.prog 145 #[v] w fun e w'=>e=.returned (.int .i64 (maxL t))∧w=w':=by
 obtain ⟨A,n,c,rfl,ha⟩:=h0;have hn:=ha.le;have hl:=ha.len;have hn1:1≤n:=by omega
 obtain ⟨b,o,x,rfl,hx,hcx⟩:=RI.at_ ha (show 0 < n by omega);have HA:=Zh ha;have HL:=Zh hl;have HX:=Zh hx;rw [Nat.add_zero] at hcx;clear ha hl hx hne;go_enter Tryz.func145,Tryz.ntmps145;go_wp2;have e0:x=maxL (t.take 1):=by
  have:=HX.out;cases t with
  | nil=>simp at this
  | cons y ys=>simp at this;simp [maxL,this]
 have E0:=Zh e0;clear e0;go_loop [3,4] (fun a i=>∃ k:Nat,i=.int .i64 k∧1≤k∧k≤n∧∃ y,a=.int .i64 y∧Hid (y=maxL (t.take k))) (fun _ i=>n - (intOf i).toNat)
 case atStart=>exact ⟨1,rfl,Nat.le_refl _,hn1,x,rfl,E0.out⟩
 case round=>
  obtain ⟨k,rfl,hk1,hk,y,rfl,hy⟩:=hrel;by_cases hlt:k < n
  .obtain ⟨b',o',z,e',hz,hcz⟩:=RI.at_ HA.out hlt;cases e';have e1:maxL (t.take (k+1))=if y < z then z else y:=by
    rw [take_snoc hz,maxL_snoc (by intro e;have:=congrArg List.length e;rw [List.length_take,HL.out] at this;simp at this;omega),← hy.out]
   have E1:=Zh e1;clear e1 hz;go_wp2
   all_goals
    go_round
    case rel=>exact ⟨k+1,by go_num,Zo,Zo,_,rfl,by show _=_;rw [E1.out];try first | rw [if_pos Zo] | rw [if_neg Zo] | (split<;>omega)⟩
    case measure=>simp [intOf];omega
  .go_wp2;go_ret;exact ⟨ret_int (by rw [hy.out,List.take_of_length_le (by rw [HL.out];omega)]),rfl⟩
def rp (o:Option Pl):Pl:=o.getD ⟨0,[]⟩
def NewF (w:World) (o:Option Pl) (e:Ending) (w':World):Prop:=∃ A n c,e=.returned (.tuple #[.agg #[.int .i64 (rp o).c,.slice A n c],.bool o.isSome])∧OwI w' w.heap.size A n c (rp o).cf∧Ext w w'
def lenAt (w:World) (g:Nat):Nat:=match w.cell? ⟨g,1,none⟩ with | some (.slice _ n _)=>n | _=>0
theorem PB.lenAt {w1 wr:World} {x:Int} {A:Option Addr} {cA:Nat} {xs:List Int} (h:PB w1 wr x A cA xs):lenAt wr w1.heap.size=xs.length:=by
 unfold Go.Proofs.YtdlgjhngndpgoaaGreat.lenAt;rw [h.c1]
def AddTo (old:List Int) (bs:List Int) (m:Int) (j:Nat) (ys:List Int):Prop:=ys.length=max old.length bs.length∧∀ i,nth ys i=nth old i+if i < j then m * nth bs i else 0
theorem AddTo.done {old bs ys:List Int} {m:Int} (h:AddTo old bs m bs.length ys):ys=addL old bs m:=by
 refine list_eq_getD (by rw [addL_len,h.1]) fun j hj=>?_;have h1:=h.2 j;unfold nth at h1;rw [h1,addL_get];by_cases hb:j < bs.length
 .rw [if_pos hb]
 .rw [if_neg hb,List.getD_eq_getElem?_getD (l:=bs),List.getElem?_eq_none Zo];simp
theorem AddTo.start {old bs:List Int} {m:Int} {t:Nat} (h:old.length+t=max old.length bs.length):AddTo old bs m 0 (old++List.replicate t 0):=by
 refine ⟨by simp [h],fun i=>?_⟩;unfold nth;rw [if_neg Zo,Int.add_zero];rcases Nat.lt_or_ge i old.length with hi | hi
 .rw [List.getD_eq_getElem?_getD,List.getElem?_append_left hi,← List.getD_eq_getElem?_getD]
 .rw [List.getD_eq_getElem?_getD,List.getD_eq_getElem?_getD,List.getElem?_append_right hi,List.getElem?_eq_none (l:=old) hi,List.getElem?_replicate];split<;>rfl
theorem AddTo.step {old bs ys:List Int} {m:Int} {j:Nat} {y b:Int} (h:AddTo old bs m j ys) (hy:ys[j]?=some y) (hb:bs[j]?=some b):AddTo old bs m (j+1) (ys.set j (y+m * b)):=by
 refine ⟨by rw [List.length_set];exact h.1,fun i=>?_⟩;have hjl:j < ys.length:=(List.getElem?_eq_some_iff.1 hy).1;by_cases hij:i=j
 .subst hij;have h1:=h.2 i;rw [if_neg Zo,Int.add_zero] at h1;rw [if_pos Zo,← h1];unfold nth;rw [List.getD_eq_getElem?_getD,List.getElem?_set_self hjl,List.getD_eq_getElem?_getD,hy,List.getD_eq_getElem?_getD,hb]
  rfl
 .have h1:=h.2 i;have e:nth (ys.set j (y+m * b)) i=nth ys i:=by
   unfold nth;rw [List.getD_eq_getElem?_getD,List.getElem?_set_ne Zo,← List.getD_eq_getElem?_getD]
  rw [e,h1]
  congr 1
  by_cases hi:i < j
  .rw [if_pos hi,if_pos Zo]
  .rw [if_neg hi,if_neg Zo]

