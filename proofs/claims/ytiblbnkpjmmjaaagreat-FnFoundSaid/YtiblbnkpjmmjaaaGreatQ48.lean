/- -/
import Derived.Test.YtiblbnkpjmmjaaaGreatQ47
set_option maxRecDepth 100000
set_option maxHeartbeats 16000000
set_option linter.all false
namespace Go.Proofs.YtiblbnkpjmmjaaaGreat
theorem x0q48 {p:Prop} (h:p:=by rw [h0,h];decide):p:=h
open Go.RowKit
noncomputable def ordV (s:Sy) (most:Int):Int:=
 if sysOk s=false∨inB most 1 3=false then 0 else if (ansF true s).isSome=true then 1 else if (ansF false s).isSome=true then 2 else if (fwO s most).isSome=true then 3 else if (fpoO s most).isSome=true then 4 else 0
section
variable {s:Sy} {most:Int}
theorem ordV_no (h:sysOk s=false∨inB most 1 3=false):ordV s most=0:=if_pos h
theorem ordV_1 (h0:sysOk s=true) (h:inB most 1 3=true) (h1:(ansF true s).isSome=true):ordV s most=1:=by
 unfold ordV;rw [if_neg x0q48,if_pos h1]
theorem ordV_2 (h0:sysOk s=true) (h:inB most 1 3=true) (h1:(ansF true s).isSome=false) (h2:(ansF false s).isSome=true):ordV s most=2:=by
 unfold ordV;rw [if_neg x0q48,if_neg (by rw [h1];decide),if_pos h2]
theorem ordV_3 (h0:sysOk s=true) (h:inB most 1 3=true) (h1:(ansF true s).isSome=false) (h2:(ansF false s).isSome=false) (h3:(fwO s most).isSome=true):ordV s most=3:=by
 unfold ordV;rw [if_neg x0q48,if_neg (by rw [h1];decide),if_neg (by rw [h2];decide),if_pos h3]
theorem ordV_4 (h0:sysOk s=true) (h:inB most 1 3=true) (h1:(ansF true s).isSome=false) (h2:(ansF false s).isSome=false) (h3:(fwO s most).isSome=false) (h4:(fpoO s most).isSome=true):ordV s most=4:=by
 unfold ordV;rw [if_neg x0q48,if_neg (by rw [h1];decide),if_neg (by rw [h2];decide),if_neg (by rw [h3];decide),if_pos h4]
theorem ordV_5 (h0:sysOk s=true) (h:inB most 1 3=true) (h1:(ansF true s).isSome=false) (h2:(ansF false s).isSome=false) (h3:(fwO s most).isSome=false) (h4:(fpoO s most).isSome=false):ordV s most=0:=by
 unfold ordV;rw [if_neg x0q48,if_neg (by rw [h1];decide),if_neg (by rw [h2];decide),if_neg (by rw [h3];decide),if_neg (by rw [h4];decide)]
end
theorem some_of {α:Type} {o:Option α} (h:o.isSome=true):∃ x,o=some x:=by cases o with | none=>cases h | some x=>exact ⟨x,rfl⟩
noncomputable def iwMeas (T:List Int→Prop) (ls hs:List Int) (o:Option (List Int)) (B g n c:Nat) (mv:Value) (w:World):Nat:=match mv with
 | .bool true=>leastOf (fun k=>∃ xs,OwI w B (some ⟨g,0,none⟩) n c xs∧OnWay T ls hs o k xs)+1
 | _=>0
theorem iwMeas_t {T:List Int→Prop} {ls hs:List Int} {o:Option (List Int)} {B g n c:Nat} {w:World}:iwMeas T ls hs o B g n c (.bool true) w=leastOf (fun k=>∃ xs,OwI w B (some ⟨g,0,none⟩) n c xs∧OnWay T ls hs o k xs)+1:=rfl
theorem iwMeas_f {T:List Int→Prop} {ls hs:List Int} {o:Option (List Int)} {B g n c:Nat} {w:World}:iwMeas T ls hs o B g n c (.bool false) w=0:=rfl
noncomputable def grMeas (T:List Int→Prop) (o:Option (List Int)) (B g n c:Nat) (mv:Value) (w:World):Nat:=match mv with
 | .bool true=>leastOf (fun k=>∃ rk,OwI w B (some ⟨g,0,none⟩) n c rk∧OnG T o k rk)+1
 | _=>0
theorem grMeas_t {T:List Int→Prop} {o:Option (List Int)} {B g n c:Nat} {w:World}:grMeas T o B g n c (.bool true) w=leastOf (fun k=>∃ rk,OwI w B (some ⟨g,0,none⟩) n c rk∧OnG T o k rk)+1:=rfl
theorem grMeas_f {T:List Int→Prop} {o:Option (List Int)} {B g n c:Nat} {w:World}:grMeas T o B g n c (.bool false) w=0:=rfl
theorem c_wOkB {v0 v1:Value} {ar:List Int} {W:Wt} {b:Bool} {w:World} (hb:wtOk ar W=b) (h0:RdSig w v0 ar) (h1:RdWt w v1 W) :
 Calls Tryz.prog 25 #[v0,v1] w fun e w'=>e=.returned (.bool b)∧Ext w w':=by subst hb;exact c_iWeightsOk h0 h1
theorem c_kAllB {v0 v1:Value} {s:Sy} {W:Wt} {b:Bool} {w:World} (hb:kbAll s W=b) (h0:RdSyC w v0 s) (h1:RdWt w v1 W) (hs:SysP s) (hW:WtP s.ar W) :
 Calls Tryz.prog 26 #[v0,v1] w fun e w'=>e=.returned (.bool b)∧Ext w w':=by subst hb;exact c_ikboOrients h0 h1 hs hW
theorem z14q48 {p:Prop} (h:p:=by (first | (first | (with_reducible exact RdI.mk (RI.ext (Hid.out (by with_reducible assumption)) extX)) | (with_reducible exact RdI.ext (by with_reducible assumption) extX)) | (with_reducible exact RdSyK.mk (by (first | (with_reducible exact RI.ext (Hid.out (by with_reducible assumption)) extX))) (RR.ext (Hid.out (by with_reducible assumption)) extX)) | (with_reducible exact RdSyK.ext (by with_reducible assumption) extX) | (with_reducible exact RdWt.mk (by (first | (with_reducible exact RI.ext (Hid.out (by with_reducible assumption)) extX))) (by (first | (with_reducible exact RI.ext (Hid.out (by with_reducible assumption)) extX)))) | (with_reducible exact RdWt.ext (by with_reducible assumption) extX) | (with_reducible exact RdSig.mk (by (first | (with_reducible exact RI.ext (Hid.out (by with_reducible assumption)) extX)))) | (with_reducible exact RdSig.ext (by with_reducible assumption) extX))):p:=h
theorem c_iFirstWeights {v0:Value} {s:Sy} {most:Int} {W:Wt} {bb:Bool} {w:World} (hW:fwW s most=W) (hbb:(fwO s most).isSome=bb) (h0:RdSyC w v0 s) :
 Calls Tryz.prog 7 #[v0,.int .i64 most] w (NewWf w W bb):=by
 obtain ⟨A0,n0,c0,B0,m0,d0,rfl,ha,hb⟩:=h0;have HA:=Zh ha;have HB:=Zh hb;have hn0:=ha.len;obtain ⟨o,ho⟩:∃ o,fwO s most=o:=⟨_,rfl⟩;have HWW:=Zh (show fwOf s o=W by rw [← hW,← ho];rfl);have HBB:=Zh (show o.isSome=bb by rw [← ho];exact hbb);have HO:=Zh ho;obtain ⟨tw,htw⟩:∃ t,triW s.ar most=t:=⟨_,rfl⟩;obtain ⟨tp,htp⟩:∃ t,triP s.ar most=t:=⟨_,rfl⟩;have HTW:=Zh htw;have HC:=Zh (show ∀ (v:Value) (w:World),RdSig w v s.ar→Calls Tryz.prog 11 #[v,.int .i64 most] w fun e w'=>e=.returned (.tuple #[.int .i64 tw,.int .i64 tp])∧Ext w w' from fun v w h=>by rw [← htw,← htp];exact c_iTriesFor h);obtain ⟨mo,hmo⟩:∃ b,inB most 1 3=b:=⟨_,rfl⟩;have HMO:=Zh hmo;have HCM:=Zh (show ∀ (w:World),Calls Tryz.prog 20 #[.int .i64 most] w fun e w'=>e=.returned (.bool mo)∧w=w' from fun w=>by rw [← hmo];exact c_mostOk);have HNO:=Zh (show o=none→∀ {w':World},Ext w w'→NewWf w W bb (.returned (.tuple #[.agg #[.int .i64 0,.slice none 0 0,.slice none 0 0],.bool false])) w' from fun h w' hE=>by
  have hp0:W=⟨0,[],[]⟩:=by rw [← HWW.out,h];rfl
  have hb0:bb=false:=by rw [← HBB.out,h];rfl
  subst hp0;subst hb0;exact ⟨none,0,0,none,0,0,rfl,⟨Zo,World.ownsRow_nil _ _ _ _⟩,⟨Zo,World.ownsRow_nil _ _ _ _⟩,(fun g o s e=>by cases e),hE⟩)
 clear ha hb hW hbb ho htw htp hmo;cases hs:sysOk s with
 | false=>
  have HN:=Zh (show o=none by rw [← HO.out];exact fwO_no (fun h=>by rw [hs] at h;cases h.1));go_enter Tryz.func7,Tryz.ntmps7;go_wp2_with fail
  (with_reducible refine (c_iSysOkP hs z14q48).mono ?_);rintro e w1 ⟨rfl,hE1⟩;have hz1:=Zs hE1;obtain ⟨hc1,hf1⟩:=bcell hE1;(try have hq1_0:w.heap.size < w1.heap.size:=Zo);(try have hq1_1:w.heap.size+1 < w1.heap.size:=Zo);have hEw2:Ext w w1:=Ext.trans (((Ext.refl w).alloc _).alloc _) hE1;obtain ⟨wb,hwb⟩:∃ wb,wb=(w.alloc (.cells #[.slice A0 n0 c0,.slice B0 m0 d0] 32)).alloc (.cells #[.int .i64 0,.slice none 0 0,.slice none 0 0] 35):=⟨_,rfl⟩;have hEb2:Ext wb w1:=by rw [hwb];exact hE1
  have HZ:=Zh (show B3 wb (w.heap.size+1) (.int .i64 0) (.slice none 0 0) (.slice none 0 0) by rw [hwb];exact B3.new _ _ _ _ _ (by simp [go_sem]));have hZ2:=HZ.out.ext hEb2;have z0:=hZ2.c0;have z1:=hZ2.c1;have z2:=hZ2.c2;have zf:=hZ2.fr;clear hZ2;go_wp2_with fail;refine bodyPost_ret (v:=.tuple #[.agg #[.int .i64 0,.slice none 0 0,.slice none 0 0],.bool false]) (by simp [results,Tryz.results7,go_sem,z0,z1,z2,zf]) rfl ?_;exact HNO.out HN.out (((hEw2.set (by simp) _).set (by simp) _).set (by simp) _)
 | true=>
  cases mo with
  | false=>
   have HN:=Zh (show o=none by rw [← HO.out];exact fwO_no (fun h=>by have h1:=triW_out (ar:=s.ar) HMO.out;omega));go_enter Tryz.func7,Tryz.ntmps7;go_wp2_with fail
   (with_reducible refine (c_iSysOkP hs z14q48).mono ?_);rintro e w1 ⟨rfl,hE1⟩;have hz1:=Zs hE1;obtain ⟨hc1,hf1⟩:=bcell hE1;(try have hq1_0:w.heap.size < w1.heap.size:=Zo);(try have hq1_1:w.heap.size+1 < w1.heap.size:=Zo);go_wp2_with fail
   (with_reducible refine (HCM.out _).mono ?_);rintro e w2 ⟨rfl,rfl⟩;have hEw2:Ext w w1:=Ext.trans (((Ext.refl w).alloc _).alloc _) hE1;obtain ⟨wb,hwb⟩:∃ wb,wb=(w.alloc (.cells #[.slice A0 n0 c0,.slice B0 m0 d0] 32)).alloc (.cells #[.int .i64 0,.slice none 0 0,.slice none 0 0] 35):=⟨_,rfl⟩;have hEb2:Ext wb w1:=by rw [hwb];exact hE1
   have HZ:=Zh (show B3 wb (w.heap.size+1) (.int .i64 0) (.slice none 0 0) (.slice none 0 0) by rw [hwb];exact B3.new _ _ _ _ _ (by simp [go_sem]));have hZ2:=HZ.out.ext hEb2;have z0:=hZ2.c0;have z1:=hZ2.c1;have z2:=hZ2.c2;have zf:=hZ2.fr;clear hZ2;go_wp2_with fail;refine bodyPost_ret (v:=.tuple #[.agg #[.int .i64 0,.slice none 0 0,.slice none 0 0],.bool false]) (by simp [results,Tryz.results7,go_sem,z0,z1,z2,zf]) rfl ?_;exact HNO.out HN.out (((hEw2.set (by simp) _).set (by simp) _).set (by simp) _)
  | true=>
   by_cases htn:tw < 0
   .have HN:=Zh (show o=none by rw [← HO.out];exact fwO_no (fun h=>by have:=HTW.out;omega));have htd:decide (tw < 0)=true:=by simpa using htn
    go_enter Tryz.func7,Tryz.ntmps7;go_wp2_with fail
    (with_reducible refine (c_iSysOkP hs z14q48).mono ?_);rintro e w1 ⟨rfl,hE1⟩;have hz1:=Zs hE1;obtain ⟨hc1,hf1⟩:=bcell hE1;(try have hq1_0:w.heap.size < w1.heap.size:=Zo);(try have hq1_1:w.heap.size+1 < w1.heap.size:=Zo);go_wp2_with fail
    (with_reducible refine (HCM.out _).mono ?_);rintro e w2 ⟨rfl,rfl⟩;go_wp2_with fail
    (with_reducible refine (HC.out _ _ z14q48).mono ?_);rintro e w3 ⟨rfl,hE3⟩;have hz3:=Zs hE3;obtain ⟨hc3,hf3⟩:=bcell hE3;(try have hq3_0:w.heap.size < w3.heap.size:=Zo);(try have hq3_1:w.heap.size+1 < w3.heap.size:=Zo);have hEw2:Ext w w3:=Ext.trans (Ext.trans (((Ext.refl w).alloc _).alloc _) hE1) hE3;obtain ⟨wb,hwb⟩:∃ wb,wb=(w.alloc (.cells #[.slice A0 n0 c0,.slice B0 m0 d0] 32)).alloc (.cells #[.int .i64 0,.slice none 0 0,.slice none 0 0] 35):=⟨_,rfl⟩;have hEb2:Ext wb w3:=by rw [hwb];exact Ext.trans hE1 hE3
    have HZ:=Zh (show B3 wb (w.heap.size+1) (.int .i64 0) (.slice none 0 0) (.slice none 0 0) by rw [hwb];exact B3.new _ _ _ _ _ (by simp [go_sem]));have hZ2:=HZ.out.ext hEb2;have z0:=hZ2.c0;have z1:=hZ2.c1;have z2:=hZ2.c2;have zf:=hZ2.fr;clear hZ2;go_wp2_with fail;refine bodyPost_ret (v:=.tuple #[.agg #[.int .i64 0,.slice none 0 0,.slice none 0 0],.bool false]) (by simp [results,Tryz.results7,go_sem,z0,z1,z2,zf]) rfl ?_;exact HNO.out HN.out (((hEw2.set (by simp) _).set (by simp) _).set (by simp) _)
   .have htd:decide (tw < 0)=false:=by simpa using htn
    have hm:1≤most∧most≤3:=triW_in (by rw [HTW.out];omega);have hsp:=sysOk_iff.1 hs;have hsg:SigP s.ar:=hsp.1;have h8:n0≤8:=by rw [← hn0];exact hsg.2.1
    have hnpos:0 < n0:=by rw [← hn0];exact hsg.1
    have HW0:=Zh (OnWay.start (T:=TW s s.ar.length) (o:=o) (zero_btw hm.1 s.ar.length) (by rw [← HO.out];unfold fwO;rw [if_pos ⟨hs,by rw [HTW.out];omega⟩]));rw [hn0] at HW0;have HNN:=Zh hn0;have HM:=Zh hm;have HSP:=Zh hsp;have HSO:=Zh hs;clear hsp hsg hn0;go_enter Tryz.func7,Tryz.ntmps7;go_wp2_with fail
    (with_reducible refine (c_iSysOkP hs z14q48).mono ?_);rintro e w1 ⟨rfl,hE1⟩;have hz1:=Zs hE1;obtain ⟨hc1,hf1⟩:=bcell hE1;(try have hq1_0:w.heap.size < w1.heap.size:=Zo);(try have hq1_1:w.heap.size+1 < w1.heap.size:=Zo);go_wp2_with fail
    (with_reducible refine (HCM.out _).mono ?_);rintro e w2 ⟨rfl,rfl⟩;go_wp2_with fail
    (with_reducible refine (HC.out _ _ z14q48).mono ?_);rintro e w3 ⟨rfl,hE3⟩;have hz3:=Zs hE3;obtain ⟨hc3,hf3⟩:=bcell hE3;(try have hq3_0:w.heap.size < w3.heap.size:=Zo);(try have hq3_1:w.heap.size+1 < w3.heap.size:=Zo);obtain ⟨wb,hwb⟩:∃ wb,wb=(w.alloc (.cells #[.slice A0 n0 c0,.slice B0 m0 d0] 32)).alloc (.cells #[.int .i64 0,.slice none 0 0,.slice none 0 0] 35):=⟨_,rfl⟩;have hb0:wb.cell? ⟨w.heap.size,0,none⟩=some (.slice A0 n0 c0):=by rw [hwb];simp [go_sem]
    have hb1:wb.cell? ⟨w.heap.size,1,none⟩=some (.slice B0 m0 d0):=by rw [hwb];simp [go_sem]
    have HZ:=Zh (show B3 wb (w.heap.size+1) (.int .i64 0) (.slice none 0 0) (.slice none 0 0) by rw [hwb];exact B3.new _ _ _ _ _ (by simp [go_sem]));have HEwb:=Zh (show Ext w wb by rw [hwb];exact ((Ext.refl w).alloc _).alloc _);have hbs:wb.heap.size=w.heap.size+2:=by rw [hwb];simp [go_sem]
    have HBS:=Zh hbs;have hEb3:Ext wb w3:=by rw [hwb];exact Ext.trans hE1 hE3
    have k0:=Ext.keep hEb3 hb0;have HB3:=Zh hEb3;clear hwb hbs hE1 hE3 hEb3;go_wp2_with fail
    (with_reducible refine (c_repeated (n:=n0) Zo).mono ?_);rintro e w4 ⟨XA,xn,xc,rfl,hX4,hE4⟩;have hxn:xn=n0:=by rw [← hX4.len];simp
    subst hxn;obtain ⟨g,rfl,hgB,hgl⟩:∃ g,XA=some ⟨g,0,none⟩∧w3.heap.size≤g∧g < w4.heap.size:=by
     rcases hX4.form with ⟨_,h0,_⟩ | h
     .omega
     .exact h
    have hcp4:=hX4.cap;have HX4:=Zh hX4;have HE4:=Zh hE4;clear hX4 k0 hE4;go_wp2_with fail;go_loopw [10] (fun mv wr=>∃ more:Bool,mv=.bool more∧Hid ((more=true→∃ k xs,OwI wr w3.heap.size (some ⟨g,0,none⟩) xn xc xs∧OnWay (TW s xn) (List.replicate xn 0) (List.replicate xn most) o k xs)∧(more=false→o=none))∧Hid (Ext w3 wr)) (fun mv wr=>iwMeas (TW s xn) (List.replicate xn 0) (List.replicate xn most) o w3.heap.size g xn xc mv wr)
    case atStart=>exact ⟨true,rfl,Zh ⟨fun _=>⟨_,_,HX4.out,HW0.out⟩,fun h=>by cases h⟩,HE4⟩
    case round=>
     obtain ⟨more,rfl,hI,hEr⟩:=hrel;have hErb:=Ext.trans HB3.out hEr.out;have HErw:=Zh (Ext.trans HEwb.out hErb);have HErb:=Zh hErb;cases more with
     | false=>
      have HN:=Zh (hI.out.2 rfl);have hZr:=HZ.out.ext hErb;have z0:=hZr.c0;have z1:=hZr.c1;have z2:=hZr.c2;have zf:=hZr.fr;clear hZr;go_wp2_with fail;refine bodyPost_ret (v:=.tuple #[.agg #[.int .i64 0,.slice none 0 0,.slice none 0 0],.bool false]) (by simp [results,Tryz.results7,go_sem,z0,z1,z2,zf]) rfl ?_;exact HNO.out HN.out (((HErw.out.set (by simp) _).set (by simp) _).set (by simp) _)
     | true=>
      have hex:∃ k,∃ xs,OwI wr w3.heap.size (some ⟨g,0,none⟩) xn xc xs∧OnWay (TW s xn) (List.replicate xn 0) (List.replicate xn most) o k xs:=hI.out.1 rfl;obtain ⟨⟨xs,hX,hW⟩,_⟩:=leastOf_spec hex;have HX:=Zh hX;have HW:=Zh hW;obtain ⟨o2,ho2⟩:∃ o2,rkO s xs xn=o2:=⟨_,rfl⟩;have HO2:=Zh ho2;have HG0:=Zh (show OnG (TR s xs) o2 (muR (upI 0 xn)+1) (upI 0 xn) from OnG.start (upI_ok h8) ho2);obtain ⟨wo,hwo⟩:∃ wo,wo=wr:=⟨_,rfl⟩;clear hX hW hex ho2 hErb;go_wp2_with fail
      (with_reducible refine (c_firstPerm (n:=xn) Zo).mono ?_);rintro e w5 ⟨RA,rn,rc,rfl,hR5,hE5⟩;have hrn:rn=xn:=by rw [← hR5.len,upI_len]
      subst hrn;obtain ⟨r,rfl,hrB,hrl⟩:∃ r,RA=some ⟨r,0,none⟩∧wr.heap.size≤r∧r < w5.heap.size:=by
       rcases hR5.form with ⟨_,h0,_⟩ | h
       .omega
       .exact h
      have HR5:=Zh hR5;have HE5:=Zh hE5;clear hR5 hE5;rw [← hwo] at HX HW HErw HErb hEr HR5 HE5 hrB hI;have HWO:=Zh hwo;clear hwo;go_wp2_with fail;go_loopw [12] (fun mv wi=>∃ more:Bool,mv=.bool more∧Hid ((more=true→∃ k rk,OwI wi wo.heap.size (some ⟨r,0,none⟩) rn rc rk∧OnG (TR s xs) o2 k rk)∧(more=false→o2=none))∧Hid (Ext wo wi)) (fun mv wi=>grMeas (TR s xs) o2 wo.heap.size r rn rc mv wi)
      case atStart=>exact ⟨true,rfl,Zh ⟨fun _=>⟨_,_,HR5.out,HG0.out⟩,fun h=>by cases h⟩,HE5⟩
      case round=>
       obtain ⟨more,rfl,hJ,hEi⟩:=hrel;have hEib:=Ext.trans HErb.out hEi.out;have HEiw:=Zh (Ext.trans HEwb.out hEib);have k0:=Ext.keep hEib hb0;have k1:=Ext.keep hEib hb1;have HXi:=Zh (HX.out.ext hEi.out);have hbl0:=World.block_lt_of_cell? wr _ k0;have hgo0:g < wo.heap.size:=(HX.out.bd g 0 none rfl).2;cases more with
       | false=>
        have HN2:=Zh (hJ.out.2 rfl);have hgo:¬ TW s rn xs:=fun h=>by have h2:(rkO s xs rn).isSome=true:=h;rw [HO2.out,HN2.out] at h2;cases h2
        rcases hup:up xs (List.replicate rn 0) (List.replicate rn most) with ⟨ys,b2⟩
        have HUP:=Zh hup;have HNX:=Zh (show (b2=true→∃ m,m < leastOf (fun k=>∃ xs,OwI wo w3.heap.size (some ⟨g,0,none⟩) rn xc xs∧OnWay (TW s rn) (List.replicate rn 0) (List.replicate rn most) o k xs)∧OnWay (TW s rn) (List.replicate rn 0) (List.replicate rn most) o m ys)∧(b2=false→o=none) from ⟨fun e=>by subst e;exact HW.out.next hgo hup,fun e=>by subst e;exact HW.out.stop hgo hup⟩);clear hup k0 k1 hbl0;go_wp2_with fail
        (with_reducible refine (c_repeated (n:=rn) Zo).mono ?_);rintro e w7 ⟨ZA,zn,zc,rfl,hZ7,hE7⟩;have hzn:zn=rn:=by rw [← hZ7.len];simp
        subst hzn;have HZ7:=Zh hZ7.ri;have HZB:=Zh hZ7.bd;have HX7:=Zh (HXi.out.ext hE7);have HE7:=Zh (Ext.trans hEr.out (Ext.trans hEi.out hE7));have hg7:g < wr.heap.size:=(HXi.out.bd g 0 none rfl).2;clear hZ7;go_wp2_with fail
        (with_reducible refine (c_repeated (n:=zn) Zo).mono ?_);rintro e w8 ⟨HA8,hn,hc,rfl,hH8,hE8⟩;have hhn:hn=zn:=by rw [← hH8.len];simp
        subst hhn;have HH8:=Zh hH8.ri;have HHB:=Zh hH8.bd;have HX8:=Zh (HX7.out.ext hE8);have HE8:=Zh (Ext.trans HE7.out hE8);have hs78:=hE7.size;clear hH8;go_wp2_with fail
        (with_reducible refine (c_countUp HUP.out HX8.out (RI.ext HZ7.out hE8) HH8.out HW.out.btw (fun g1 o1 s1 g' o' s' e e'=>by cases e;have:=(HZB.out _ _ _ e').1;omega) (fun g1 o1 s1 g' o' s' e e'=>by cases e;have:=(HHB.out _ _ _ e').1;omega) (rep_big HM.out.2 hn)).mono ?_);rintro e w9 ⟨rfl,hY9,hA9⟩;have hE9:Ext w3 w9:=OnlyA.ext hA9 HE8.out (fun g o s e=>by cases e;exact hgB);have HY9:=Zh hY9;clear hY9 hA9;go_wp2_with fail;go_roundw
        case rel=>exact ⟨b2,rfl,Zh ⟨fun e=>by
         obtain ⟨m,_,hm⟩:=HNX.out.1 e;exact ⟨m,ys,HY9.out,hm⟩,HNX.out.2⟩,Zh hE9⟩
        case measure=>
         rw [← HWO.out,iwMeas_t];cases b2 with
         | false=>rw [iwMeas_f];omega
         | true=>
          rw [iwMeas_t];obtain ⟨m,hm1',hm2⟩:=HNX.out.1 rfl;have:=leastOf_le (R:=fun k=>∃ xs,OwI w9 w3.heap.size (some ⟨g,0,none⟩) hn xc xs∧OnWay (TW s hn) (List.replicate hn 0) (List.replicate hn most) o k xs) ⟨ys,HY9.out,hm2⟩;omega
       | true=>
        have hex:∃ k,∃ rk,OwI wr wo.heap.size (some ⟨r,0,none⟩) rn rc rk∧OnG (TR s xs) o2 k rk:=hJ.out.1 rfl;obtain ⟨⟨rk,hR,hG⟩,_⟩:=leastOf_spec hex;have HR:=Zh hR;have HG:=Zh hG;have HOK:=Zh hG.1;have hBx:Ext wr (wr.alloc (.cells #[.int .i64 1,.slice (some ⟨g,0,none⟩) rn xc,.slice (some ⟨r,0,none⟩) rn rc] 35)):=(Ext.refl wr).alloc _;have HQ6:=Zh (B3.new wr (.int .i64 1) (.slice (some ⟨g,0,none⟩) rn xc) (.slice (some ⟨r,0,none⟩) rn rc) wr.heap.size rfl);obtain ⟨wk,hwk⟩:∃ b,wtOk s.ar ⟨1,xs,rk⟩=b:=⟨_,rfl⟩;have HWK:=Zh hwk;obtain ⟨nb,hnb⟩:∃ b,nextB rk=b:=⟨_,rfl⟩;have HNB:=Zh hnb;have HEi2:=Zh (Ext.trans hEi.out hBx);have HE6w:=Zh (Ext.trans HEiw.out hBx);have HX6:=Zh (HXi.out.ext hBx);have HR6:=Zh (HR.out.ext hBx);clear hR hG hex hwk hnb;go_wp2_with fail
        (with_reducible refine (c_wOkB HWK.out (RdSig.mk (RI.ext HA.out HE6w.out)) (RdWt.mk (t:=⟨1,xs,rk⟩) HX6.out.ri HR6.out.ri)).mono ?_);rintro e w7 ⟨rfl,hE7⟩;have HE7w:=Zh (Ext.trans HE6w.out hE7);have HE7o:=Zh (Ext.trans HEi2.out hE7);have HX7:=Zh (HX6.out.ext hE7);have HR7:=Zh (HR6.out.ext hE7);have hk7:=Ext.keep (Ext.trans hBx hE7) k0;have hk71:=Ext.keep (Ext.trans hBx hE7) k1;have HQ7:=Zh (HQ6.out.ext hE7);have q0:=HQ7.out.c0;have q1:=HQ7.out.c1;have q2:=HQ7.out.c2;have HB7:=Zh (Ext.trans HErb.out HE7o.out);clear k0 k1 hbl0;cases wk with
        | false=>
         have hgo:¬ TR s xs rk:=fun h=>by
          have h2:kboOrients s ⟨1,xs,rk⟩=true:=h;unfold kboOrients at h2;simp only [Bool.and_eq_true] at h2;rw [HWK.out] at h2;cases h2.1.2
         have HNX:=Zh (show (nb=true→∃ m,m < leastOf (fun k=>∃ rk,OwI wr wo.heap.size (some ⟨r,0,none⟩) rn rc rk∧OnG (TR s xs) o2 k rk)∧OnG (TR s xs) o2 m (nextV rk))∧(nb=false→o2=none) from ⟨fun e=>by rw [e] at HNB;exact HG.out.next hgo HNB.out,fun e=>by rw [e] at HNB;exact HG.out.stop hgo HNB.out⟩);go_wp2_with fail
         (with_reducible refine (c_nextRank2 HNB.out HOK.out HR7.out HE7o.out.size).mono ?_);rintro e w9 ⟨rfl,hB9,hO9⟩;have HE9:=Zh (show Ext wo w9 from (show Below wo.heap.size wo w9 from Below.trans (show Below wo.heap.size wo w7 from HE7o.out) hB9));have HO9:=Zh hO9;clear hO9 hB9;go_wp2_with fail;go_roundw
         case rel=>exact ⟨nb,rfl,Zh ⟨fun e=>by
          obtain ⟨m,_,hm⟩:=HNX.out.1 e;exact ⟨m,_,HO9.out e,hm⟩,HNX.out.2⟩,HE9⟩
         case measure=>
          rw [grMeas_t];cases nb with
          | false=>rw [grMeas_f];omega
          | true=>
           rw [grMeas_t];obtain ⟨m,hm1',hm2⟩:=HNX.out.1 rfl;have:=leastOf_le (R:=fun k=>∃ rk,OwI w9 wo.heap.size (some ⟨r,0,none⟩) rn rc rk∧OnG (TR s xs) o2 k rk) ⟨_,HO9.out rfl,hm2⟩;omega
        | true=>
         obtain ⟨kb,hkb⟩:∃ b,kbAll s ⟨1,xs,rk⟩=b:=⟨_,rfl⟩;have HKB:=Zh hkb;clear hkb;go_wp2_with fail
         (with_reducible refine (c_kAllB HKB.out (RdSyK.mk (RI.ext HA.out HE7w.out) (RR.ext HB.out HE7w.out)) (RdWt.mk (t:=⟨1,xs,rk⟩) HX7.out.ri HR7.out.ri) HSP.out (wtOk_iff.1 HWK.out)).mono ?_);rintro e w8 ⟨rfl,hE8⟩;have HE8w:=Zh (Ext.trans HE7w.out hE8);have HE8o:=Zh (Ext.trans HE7o.out hE8);have HX8:=Zh (HX7.out.ext hE8);have HR8:=Zh (HR7.out.ext hE8);have HQ8:=Zh (HQ7.out.ext hE8);have HB8:=Zh (Ext.trans HB7.out hE8);cases kb with
         | false=>
          have hgo:¬ TR s xs rk:=fun h=>by
           have h2:kboOrients s ⟨1,xs,rk⟩=true:=h;unfold kboOrients at h2;simp only [Bool.and_eq_true] at h2;rw [HKB.out] at h2;cases h2.2
          have HNX:=Zh (show (nb=true→∃ m,m < leastOf (fun k=>∃ rk,OwI wr wo.heap.size (some ⟨r,0,none⟩) rn rc rk∧OnG (TR s xs) o2 k rk)∧OnG (TR s xs) o2 m (nextV rk))∧(nb=false→o2=none) from ⟨fun e=>by rw [e] at HNB;exact HG.out.next hgo HNB.out,fun e=>by rw [e] at HNB;exact HG.out.stop hgo HNB.out⟩);go_wp2_with fail
          (with_reducible refine (c_nextRank2 HNB.out HOK.out HR8.out HE8o.out.size).mono ?_);rintro e w9 ⟨rfl,hB9,hO9⟩;have HE9:=Zh (show Ext wo w9 from (show Below wo.heap.size wo w9 from Below.trans (show Below wo.heap.size wo w8 from HE8o.out) hB9));have HO9:=Zh hO9;clear hO9 hB9;go_wp2_with fail;go_roundw
          case rel=>exact ⟨nb,rfl,Zh ⟨fun e=>by
           obtain ⟨m,_,hm⟩:=HNX.out.1 e;exact ⟨m,_,HO9.out e,hm⟩,HNX.out.2⟩,HE9⟩
          case measure=>
           rw [grMeas_t];cases nb with
           | false=>rw [grMeas_f];omega
           | true=>
            rw [grMeas_t];obtain ⟨m,hm1',hm2⟩:=HNX.out.1 rfl;have:=leastOf_le (R:=fun k=>∃ rk,OwI w9 wo.heap.size (some ⟨r,0,none⟩) rn rc rk∧OnG (TR s xs) o2 k rk) ⟨_,HO9.out rfl,hm2⟩;omega
         | true=>
          have hgo:TR s xs rk:=by
           show kboOrients s ⟨1,xs,rk⟩=true;unfold kboOrients;rw [HSO.out,HWK.out,HKB.out];rfl
          have ho2:o2=some rk:=HG.out.yes hgo;have ho:o=some xs:=HW.out.yes (show (rkO s xs rn).isSome=true by rw [HO2.out,ho2];rfl);have hZ8:=HZ.out.ext HB8.out;have z0:=hZ8.c0;have z1:=hZ8.c1;have z2:=hZ8.c2;have zf:=hZ8.fr;have hzl:=hZ8.lt;have v0:=HQ8.out.c0;have v1:=HQ8.out.c1;have v2:=HQ8.out.c2;clear hZ8 q0 q1 q2;go_wp2_with fail;refine bodyPost_ret (v:=.tuple #[.agg #[.int .i64 1,.slice (some ⟨g,0,none⟩) rn xc,.slice (some ⟨r,0,none⟩) rn rc],.bool true]) (by simp [results,Tryz.results7,go_sem,z0,z1,z2,zf,hzl]) rfl ?_;have hWt:W=⟨1,xs,rk⟩:=by rw [← HWW.out,ho];show (⟨1,xs,(rkO s xs s.ar.length).getD []⟩:Wt)=_;rw [HNN.out,HO2.out,ho2];rfl
          have hb0':bb=true:=by rw [← HBB.out,ho];rfl
          subst hWt;subst hb0';have hsw:=HBS.out;have f1:∀ b o s,(some ⟨g,0,none⟩:Option Addr)=some ⟨b,o,s⟩→b≠w.heap.size+1:=fun b o s e=>by cases e;omega
          have hso:=HErb.out.size;have f2:∀ b o s,(some ⟨r,0,none⟩:Option Addr)=some ⟨b,o,s⟩→b≠w.heap.size+1:=fun b o s e=>by cases e;omega
          refine ⟨_,rn,xc,_,rn,rc,rfl,OwI.lower (((HX8.out.setFar _ f1).setFar _ f1).setFar _ f1) Zo,OwI.lower (((HR8.out.setFar _ f2).setFar _ f2).setFar _ f2) Zo,(fun g1 o1 s1 e g2 o2' s2 e2=>by cases e;cases e2;omega),((HE8w.out.set (by simp) _).set (by simp) _).set (by simp) _⟩
end Go.Proofs.YtiblbnkpjmmjaaaGreat
namespace Go.Proofs.YtiblbnkpjmmjaaaGreat
open Go.Conc
section
variable {P:Program} {c:Nat} {z:Value} {ι:Type} {V:ι→Value→Nat→World→Prop} {Fin Fin':Set_→Goroutine→World→Prop} {Post:Value→World→Prop}
theorem mstop_mono (h:∀ O g w,Fin O g w→Fin' O g w):∀ (rs:List ι) O g w,MStop P c z V Fin rs O g w→MStop P c z V Fin' rs O g w
 | [],O,g,w,k=>⟨k.1,fun w2 hr=>h _ _ _ (k.2 w2 hr)⟩
 | r :: rs,O,g,w,k=>⟨k.1,fun w2 x b hr hb hV=>(k.2 w2 x b hr hb hV).mono (mstop_mono h rs)⟩
theorem atgo_mono (h:∀ O g w,Fin O g w→Fin' O g w) {O:Set_} {g:Goroutine} {w:World} (k:AtGo_ P c Fin O g w):AtGo_ P c Fin' O g w:=by
 obtain ⟨k1,g',child,ι,V,rs,z,k2,k3,k4,k5⟩:=k;exact ⟨k1,g',child,ι,V,rs,z,k2,k3,k4.mono (mstop_mono h rs),k5⟩
theorem atmk_mono (h:∀ O g w,Fin O g w→Fin' O g w) {O:Set_} {g:Goroutine} {w:World} (k:AtMk_ P Fin O g w):AtMk_ P Fin' O g w:=by
 obtain ⟨k1,g',k2,O',k3,k4⟩:=k;exact ⟨k1,g',k2,O',k3,k4.mono fun _ _ _=>atgo_mono h⟩
theorem scrS_mono (O:Set_) (g:Goroutine) (w:World) (h:ScrS P Post 0 O g w):ScrS P Post 1 O g w:=
 h.imp id (atmk_mono fun _ _ _ k=>Co.mono (Stop:=fun _ g w=>AtEnd_ P Post g w) k fun _ _ _=>.inl)
theorem offs_scr (kk:Nat):Offs (ScrS P Post kk):=fun O g w of h=>h.imp (fun h=>h) fun h=>h
theorem offs_end:Offs (fun _ g w=>AtEnd_ P Post g w):=fun O g w of h=>h
end

