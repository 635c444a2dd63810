/- -/
import Derived.Test.YtiblbnkpjmmjaaaGreatQ21
set_option maxRecDepth 100000
set_option maxHeartbeats 16000000
set_option linter.all false
namespace Go.Proofs.YtiblbnkpjmmjaaaGreat
theorem x0q22 {p:Prop} (h:p:=by rw [HR.out];rfl):p:=h
open Go.RowKit
def LC.Bags (X:LC):Prop:=∀ (i j:Nat) (x y:Int) (us ss:List Tm) (A B:Option Addr) (cA cB:Nat) (w:World),X.P→X.H w→X.At i j x us y ss→us.length=ss.length →
 RI w A us.length (starts (i+1) us)→RI w B ss.length (starts (j+1) ss)→(∀ b o s,A=some ⟨b,o,s⟩→b≠X.g)→(∀ b o s,B=some ⟨b,o,s⟩→b≠X.g) →
 (∀ p q,p < us.length→q < ss.length→X.Gr (pl i us p) (pl j ss q)) →
 Calls Tryz.prog 143 #[.agg #[],.pointer (some ⟨X.g,0,none⟩),.slice A us.length cA,.slice B ss.length cB] w (X.Tell i j w (.bool (bagG X.V us ss)))
theorem LC.Bags.out {X:LC} (h:X.Bags) {i j:Nat} {x y:Int} {us ss:List Tm} {A B:Option Addr} {cA cB:Nat} {w:World} (hP:X.P) (hH:X.H w) (hA:X.At i j x us y ss) (hl:us.length=ss.length)
 (h1:RI w A us.length (starts (i+1) us)) (h2:RI w B ss.length (starts (j+1) ss)) (h3:∀ b o s,A=some ⟨b,o,s⟩→b≠X.g) (h4:∀ b o s,B=some ⟨b,o,s⟩→b≠X.g)
 (h5:∀ p q,p < us.length→q < ss.length→X.Gr (pl i us p) (pl j ss q)) :
 Calls Tryz.prog 143 #[.agg #[],.pointer (some ⟨X.g,0,none⟩),.slice A us.length cA,.slice B ss.length cB] w (X.Tell i j w (.bool (bagG X.V us ss))):=
 h i j x y us ss A B cA cB w hP hH hA hl h1 h2 h3 h4 h5
theorem LC.same_ij {X:LC} (hP:X.P) {i j:Nat} {x y:Int} {us ss:List Tm} (h:X.At i j x us y ss) {p:Nat} {a:Tm} (ha:us[p]?=some a) :
 pl i us p < X.t.length∧X.W (pl i us p) j=X.V a (.node y ss)∧(X.same (pl i us p) j=true↔a=.node y ss):=by
 obtain ⟨h1,h2⟩:=pl_at hP.tt h.hi h.ti ha;refine ⟨h1,by unfold LC.W;rw [h2,h.sj],?_⟩;unfold LC.same;rw [h2,h.sj];rw [beq_iff_eq];exact flat_eq (OkL_iff.1 (Ok_node.1 (h.ok hP).1).2 a (List.mem_of_getElem? ha)) (h.ok hP).2
theorem LC.over_ij {X:LC} (hP:X.P) {i j:Nat} {x y:Int} {us ss:List Tm} (h:X.At i j x us y ss) {q:Nat} {b:Tm} (hb:ss[q]?=some b) :
 pl j ss q < X.s.length∧X.W i (pl j ss q)=X.V (.node x us) b:=by
 obtain ⟨h1,h2⟩:=pl_at hP.ts h.hj h.sj hb;exact ⟨h1,by unfold LC.W;rw [h2,h.ti]⟩
theorem argG_t {W:Tm→Tm→Nat} {us:List Tm} {s a:Tm} {p:Nat} (ha:us[p]?=some a) (h:a=s∨0 < W a s):argG W us s=true:=by
 unfold argG;rw [List.any_eq_true];exact ⟨a,List.mem_of_getElem? ha,by simpa using h⟩
theorem argG_f {W:Tm→Tm→Nat} {us:List Tm} {s:Tm} (h:∀ (p:Nat) (a:Tm),p < us.length→us[p]?=some a→a≠s∧¬ 0 < W a s):argG W us s=false:=by
 unfold argG;rw [List.any_eq_false];intro a ha;obtain ⟨p,hp,e⟩:=List.mem_iff_getElem.1 ha;have:=h p a hp (by rw [List.getElem?_eq_getElem hp,e]);simp [this.1,this.2]
theorem overG_t {W:Tm→Tm→Nat} {ss:List Tm} {t:Tm} (h:∀ (p:Nat) (b:Tm),p < ss.length→ss[p]?=some b→0 < W t b):overG W t ss=true:=by
 unfold overG;rw [List.all_eq_true];intro b hb;obtain ⟨p,hp,e⟩:=List.mem_iff_getElem.1 hb
 simpa using h p b hp (by rw [List.getElem?_eq_getElem hp,e])
theorem overG_f {W:Tm→Tm→Nat} {ss:List Tm} {t b:Tm} {p:Nat} (hb:ss[p]?=some b) (h:¬ 0 < W t b):overG W t ss=false:=by
 unfold overG;rw [List.all_eq_false];exact ⟨b,List.mem_of_getElem? hb,by simpa using h⟩
section
variable {rk:Int→Int} {lex:Bool} {W:Tm→Tm→Nat} {x y:Int} {us ss:List Tm}
theorem lpoB_var (h:x < 0):lpoB rk lex W (.node x us) (.node y ss)=0:=by unfold lpoB;rw [if_pos (show (Tm.node x us).hd < 0 from h)]
theorem lpoB_1 (h:0≤x) (h1:argG W us (.node y ss)=true):lpoB rk lex W (.node x us) (.node y ss)=1:=by
 unfold lpoB;rw [if_neg (show ¬ (Tm.node x us).hd < 0 from Int.not_lt.2 h),if_pos (show argG W (Tm.node x us).as (Tm.node y ss)=true from h1)]
theorem lpoB_rest (h:0≤x) (h1:argG W us (.node y ss)=false):lpoB rk lex W (.node x us) (.node y ss)=if y < 0 then 0
 else if x=y then (if (if lex=true then overG W (.node x us) ss && lexG W us ss else bagG W us ss)=true then 3 else 0)
 else if rk y < rk x∧overG W (.node x us) ss=true then 2 else 0:=by
 unfold lpoB;rw [if_neg (show ¬ (Tm.node x us).hd < 0 from Int.not_lt.2 h),if_neg (by rw [show argG W (Tm.node x us).as (Tm.node y ss)=false from h1];decide)];rfl
end
theorem at_of {t rest:List Int} {i:Nat} {x:Int} {us:List Tm} (h:t.drop i=(Tm.node x us).flat++rest):t[i]?=some x:=drop_head (by rw [← flat_node];exact h)
theorem LC.Below.left {X:LC} (hP:X.P) {i j:Nat} {x y:Int} {us ss:List Tm} (h:X.At i j x us y ss) (hB:X.Below ((subT X.ar X.t i).sz+(subT X.ar X.s j).sz)) {p:Nat} (hp:p < us.length):X.Gr (pl i us p) j:=by
 obtain ⟨h1,h2⟩:=pl_at hP.tt h.hi h.ti (List.getElem?_eq_getElem hp);refine hB _ _ h1 h.hj ?_;rw [h2,h.ti];have:=sz_arg (t:=.node x us) (a:=us[p]) (List.getElem_mem hp);omega
theorem LC.Below.right {X:LC} (hP:X.P) {i j:Nat} {x y:Int} {us ss:List Tm} (h:X.At i j x us y ss) (hB:X.Below ((subT X.ar X.t i).sz+(subT X.ar X.s j).sz)) {q:Nat} (hq:q < ss.length):X.Gr i (pl j ss q):=by
 obtain ⟨h1,h2⟩:=pl_at hP.ts h.hj h.sj (List.getElem?_eq_getElem hq);refine hB _ _ h.hi h1 ?_;rw [h2,h.sj];have:=sz_arg (t:=.node y ss) (a:=ss[q]) (List.getElem_mem hq);omega
theorem LC.Below.args {X:LC} (hP:X.P) {i j:Nat} {x y:Int} {us ss:List Tm} (h:X.At i j x us y ss) (hB:X.Below ((subT X.ar X.t i).sz+(subT X.ar X.s j).sz)):∀ p q,p < us.length→q < ss.length→X.Gr (pl i us p) (pl j ss q):=by
 intro p q hp hq;obtain ⟨h1,h2⟩:=pl_at hP.tt h.hi h.ti (List.getElem?_eq_getElem hp);obtain ⟨h3,h4⟩:=pl_at hP.ts h.hj h.sj (List.getElem?_eq_getElem hq);refine hB _ _ h1 h3 ?_;rw [h2,h4,h.ti,h.sj];have:=sz_arg (t:=.node x us) (a:=us[p]) (List.getElem_mem hp);have:=sz_arg (t:=.node y ss) (a:=ss[q]) (List.getElem_mem hq);omega
theorem c_argsAtG {v0 v1:Value} {ar t rest:List Int} {p g:Nat} {x:Int} {us:List Tm} {w:World} (h0:RdSig w v0 ar) (h1:RdI w v1 t) (hs:SigP ar) (hu:(Tm.node x us).Ok ar) (hd:t.drop p=(Tm.node x us).flat++rest) (hg:g < w.heap.size) :
 Calls Tryz.prog 98 #[v0,v1,.int .i64 (p:Int)] w fun e w'=>∃ A c,e=.returned (.slice A us.length c)∧RI w' A us.length (starts (p+1) us)∧Ext w w'∧∀ b o s,A=some ⟨b,o,s⟩→b≠g:=
 (c_argsAtB h0 h1 hs hu hd).mono fun _ _ ⟨A,n,c,e,h1,h2,h3,h4⟩=>by subst h1;exact ⟨A,c,e,h2,h3,fun b o s e=>by have:=h4 b o s e;omega⟩
theorem RI.starts_at {w:World} {A:Option Addr} {i k:Nat} {us:List Tm} (h:RI w A us.length (starts (i+1) us)) (hk:k < us.length):∃ b o,A=some ⟨b,o,none⟩∧w.cell? ⟨b,o+k,none⟩=some (.int .i64 ((pl i us k:Nat):Int)):=by
 obtain ⟨b,o,z,rfl,hz,hc⟩:=RI.at_ h hk;rw [starts_get hk] at hz;cases hz;exact ⟨b,o,rfl,hc⟩
theorem mq22 {p:Prop} (h:p:=by simp only [intOf];omega):p:=h
theorem c_find {X:LC} {i j:Nat} (hP:X.P) (hbag:X.Bags) (hi:i < X.t.length) (hj:j < X.s.length) (hB:X.Below ((subT X.ar X.t i).sz+(subT X.ar X.s j).sz)):X.Fd i j:=by
 intro w h;obtain ⟨⟨x,us⟩,hti⟩:∃ u,subT X.ar X.t i=u:=⟨_,rfl⟩;obtain ⟨⟨y,ss⟩,hsj⟩:∃ u,subT X.ar X.s j=u:=⟨_,rfl⟩;have hA:X.At i j x us y ss:=⟨hi,hj,hti,hsj⟩;obtain ⟨h1,rest1,h2⟩:=subT_ok hP.tt hi;obtain ⟨h3,rest2,h4⟩:=subT_ok hP.ts hj;rw [hti] at h1 h2;rw [hsj] at h3 h4;have hx1:=at_of h2;have hy1:=at_of h4;have hmi:i < X.m:=by rw [← h.t.len];exact hi
 have hkj:j < X.k:=by rw [← h.s.len];exact hj
 have hmi':(i:Int) < (X.m:Int):=by omega
 have hkj':(j:Int) < (X.k:Int):=by omega
 have hi0:(0:Int)≤(i:Int):=by omega
 have hj0:(0:Int)≤(j:Int):=by omega
 obtain ⟨b1,o1,z1,e1,hz1,hcx⟩:=RI.at_ h.t hmi;cases e1;rw [hx1] at hz1;cases hz1;obtain ⟨b2,o2,z2,e2,hz2,hcy⟩:=RI.at_ h.s hkj;cases e2;rw [hy1] at hz2;cases hz2;have c0:=h.c0;have c3:=h.c3;have c4:=h.c4;have HW:=Zh (show X.W i j=lpoB (rkF X.rk) X.lex X.V (.node x us) (.node y ss) by unfold LC.W;rw [hti,hsj,lpoW_eq]);obtain ⟨V,hV⟩:∃ V,V=X.W i j:=⟨_,rfl⟩;rw [← hV] at HW ⊢;have hxn:=arI_lt (Ok_node.1 h1).1;have hyn:=arI_lt (Ok_node.1 h3).1;rw [h.a.len] at hxn hyn;have hal:us.length≤3:=arI_le hP.sig (Ok_node.1 h1).1;have hbl:ss.length≤3:=arI_le hP.sig (Ok_node.1 h3).1;have hxy:x=y→us.length=ss.length:=by
  rintro rfl;have e1:=(Ok_node.1 h1).1;rw [(Ok_node.1 h3).1] at e1;injection e1 with e1;exact e1.symm
 have HXY:=Zh hxy;have HH:=Zh h;have HP:=Zh hP;have HA:=Zh hA;have HB:=Zh hB;have HBAG:=Zh hbag;have HU:=Zh h1;have HUD:=Zh h2;have HZ:=Zh h3;have HZD:=Zh h4;have HS:=Zh hP.sig;have HRA:=Zh h.a;have HRT:=Zh h.t;clear h hP hA hB hbag h1 h2 h3 h4 hti hsj hx1 hy1 hV hi hj hxy;by_cases hx0:x < 0
 .have HR:=Zh (show V=0 by rw [HW.out,lpoB_var hx0]);go_enter Tryz.func121,Tryz.ntmps121;go_wp2;go_ret;exact ⟨ret_int x0q22,HH.out,Only.refl _ _⟩
 .have HX0:=Zh (show 0≤x by omega);go_enter Tryz.func121,Tryz.ntmps121;go_wp2_with fail;refine wp_region_held_drew (S:=(fun w'=>Ext w w'∧w'.cell? ⟨X.g,0,none⟩=some (.slice (some ⟨X.ab,X.ao,none⟩) X.n X.c)∧w'.cell? ⟨X.g,3,none⟩=some (.slice (some ⟨X.tb,X.tq,none⟩) X.m X.d))) Zk ?_ (fun hH=>?_)
  .exact ⟨(Ext.refl w).drew,c0,c3⟩
  refine s6Z0 0 (.pointer (some ⟨X.g,0,none⟩)) 22 1 (.pointer (some ⟨X.g,0,none⟩)) 23 2 (.pointer (some ⟨X.g,0,none⟩)) 24 3 (.agg #[.slice (some ⟨X.ab,X.ao,none⟩) X.n X.c]) 25 4 (.pointer (some ⟨X.g,0,none⟩)) 26 5 (.pointer (some ⟨X.g,0,none⟩)) 27 hH ?_;refine s2Z0 6 (.pointer (some ⟨X.g,3,none⟩)) 28 7 (.slice (some ⟨X.tb,X.tq,none⟩) X.m X.d) 29 hH ?_;refine s1Z0 8 (.int .i64 (i:Int)) 30 hH ?_;refine Z4 9 fun K hK=>?_;go_wp2_with (go_at_call 98;(with_reducible refine ((c_argsAtG (g:=X.g) (RdSig.mk (RI.ext HRA.out hH.1)) (RdI.mk (RI.ext HRT.out hH.1)) HS.out HU.out HUD.out (Nat.lt_of_lt_of_le HH.out.lt hH.1.size))).mono ?_);rintro e w1 ⟨A1,cA1,rfl,hr1,hE9,hA1⟩)
  refine hK.out _ _ ⟨Ext.trans hH.1 hE9,Ext.keep hE9 hH.2.1,Ext.keep hE9 hH.2.2⟩ (fun hH9=>?_);clear hK hH;rename _=>hH;try simp only [Act.put,Zl]
  refine s1Z0 10 (.slice A1 us.length cA1) 7 hH ?_;refine wpAnyH_done Zk ?_ _;obtain ⟨hE1,_,_⟩:=hH;have HH1:=Zh (HH.out.ext hE1);have HO1:=Zh (Only.of_ext hE1 X.g);have HR1:=Zh hr1;have HA1:=Zh hA1;clear hE1 hr1 hA1 c0 c3 c4 hcx hcy hE9;go_wp2_with fail;go_loopw [34] (fun iv wr=>∃ q:Nat,iv=.int .i64 q∧q≤us.length∧Hid (∀ (p:Nat) (a:Tm),p < q→us[p]?=some a→a≠.node y ss∧¬ 0 < X.V a (.node y ss))∧Hid (X.H wr)∧Hid (Only w wr X.g)∧Hid (Only w1 wr X.g)) (fun iv _=>us.length - (intOf iv).toNat)
  case atStart=>exact ⟨0,rfl,Nat.zero_le _,Zh (fun p a hp=>Zo),HH1,HO1,Zh (Only.refl _ _)⟩
  case round=>
   obtain ⟨q,rfl,hq,hno,hHr,hOr,hOr1⟩:=hrel;by_cases hlt:q < us.length
   .obtain ⟨a,ha⟩:∃ a,us[q]?=some a:=⟨us[q],List.getElem?_eq_getElem hlt⟩;obtain ⟨hpq,hWq,hSq⟩:=LC.same_ij HP.out HA.out ha;obtain ⟨b3,o3,rfl,hc3⟩:=RI.starts_at (HR1.out.only hOr1.out fun b o s e _=>HA1.out b o s e) hlt;have HG:=Zh (LC.Below.left HP.out HA.out HB.out hlt);have HJ:=Zh HA.out.hj;have HPQ:=Zh hpq;have HAK:=Zh ha;have HWQ:=Zh hWq;obtain ⟨P1,hP1⟩:∃ P1,P1=pl i us q:=⟨_,rfl⟩;rw [← hP1] at hc3 HPQ HWQ HG hSq;clear ha hpq hWq hP1;have hj1:(q:Int) < (us.length:Int):=by omega
    have hq0:(0:Int)≤(q:Int):=by omega
    by_cases heq:a=.node y ss
    .have HSE:=Zh (hSq.2 heq);have HR:=Zh (show V=1 by rw [HW.out,lpoB_1 HX0.out (argG_t HAK.out (.inl heq))]);clear heq hSq;go_wp2_with fail
     (with_reducible refine (c_same' HSE.out HP.out hHr.out HPQ.out HJ.out).mono ?_);rintro e w5 ⟨rfl,hE5⟩;have HH5:=Zh (hHr.out.ext hE5);go_wp2;go_ret;exact ⟨ret_int x0q22,HH5.out,hOr.out.trans (Only.of_ext hE5 _)⟩
    .have HSE:=Zh (show X.same P1 j=false by
      cases h:X.same P1 j with
      | true=>exact absurd (hSq.1 h) heq
      | false=>rfl)
     have HEQ:=Zh heq;clear heq hSq;by_cases hgr:0 < X.V a (.node y ss)
     .have HGB:=Zh (show decide (0 < X.W P1 j)=true by rw [HWQ.out];simpa using hgr);have HR:=Zh (show V=1 by rw [HW.out,lpoB_1 HX0.out (argG_t HAK.out (.inr hgr))]);clear hgr;go_wp2_with fail
      (with_reducible refine (c_same' HSE.out HP.out hHr.out HPQ.out HJ.out).mono ?_);rintro e w5 ⟨rfl,hE5⟩;have HH5:=Zh (hHr.out.ext hE5);go_wp2_with fail
      (with_reducible refine (HG.out.out HGB.out HH5.out).mono ?_);rintro e w6 ⟨rfl,hH6,hO6⟩;have HH6:=Zh hH6;clear hH6;go_wp2;go_ret;exact ⟨ret_int x0q22,HH6.out,hOr.out.trans ((Only.of_ext hE5 _).trans hO6)⟩
     .have HGB:=Zh (show decide (0 < X.W P1 j)=false by rw [HWQ.out];simpa using hgr);have HN:=Zh (show ∀ (p:Nat) (a:Tm),p < q+1→us[p]?=some a→a≠.node y ss∧¬ 0 < X.V a (.node y ss) from fun p a' hp ha'=>by
       rcases Nat.lt_or_ge p q with h | h
       .exact hno.out p a' h ha'
       .obtain rfl:p=q:=by omega
        rw [HAK.out] at ha';cases ha';exact ⟨HEQ.out,hgr⟩)
      clear hgr;go_wp2_with fail
      (with_reducible refine (c_same' HSE.out HP.out hHr.out HPQ.out HJ.out).mono ?_);rintro e w5 ⟨rfl,hE5⟩;have HH5:=Zh (hHr.out.ext hE5);go_wp2_with fail
      (with_reducible refine (HG.out.out HGB.out HH5.out).mono ?_);rintro e w6 ⟨rfl,hH6,hO6⟩;have HH6:=Zh hH6;have HO6:=Zh hO6;clear hH6 hO6;go_wp2;go_roundw
      case rel=>exact ⟨q+1,by go_num,Zo,HN,HH6,Zh (hOr.out.trans ((Only.of_ext hE5 _).trans HO6.out)),Zh (hOr1.out.trans ((Only.of_ext hE5 _).trans HO6.out))⟩
      case measure=>exact mq22
   .have hqn:q=us.length:=by omega
    have HAR:=Zh (argG_f (by rw [← hqn];exact hno.out));have c0:=hHr.out.c0;have c4:=hHr.out.c4;have hcy:wr.cell? ⟨X.sb,X.so+j,none⟩=some (.int .i64 y):=by
     obtain ⟨b,o,z,e,hz,hc⟩:=RI.at_ hHr.out.s hkj;cases e;rw [at_of HZD.out] at hz;cases hz;exact hc
    by_cases hy0:y < 0
    .have HR:=Zh (show V=0 by rw [HW.out,lpoB_rest HX0.out HAR.out,if_pos hy0]);go_wp2;go_ret;exact ⟨ret_int x0q22,hHr.out,hOr.out⟩
    .have HY0:=Zh (show 0≤y by omega);go_wp2_with fail;refine wp_region_held_drew (S:=(fun w'=>Ext wr w'∧w'.cell? ⟨X.g,0,none⟩=some (.slice (some ⟨X.ab,X.ao,none⟩) X.n X.c)∧w'.cell? ⟨X.g,4,none⟩=some (.slice (some ⟨X.sb,X.so,none⟩) X.k X.l))) Zk ?_ (fun hH=>?_)
     .exact ⟨(Ext.refl wr).drew,c0,c4⟩
     refine s6Z0 0 (.pointer (some ⟨X.g,0,none⟩)) 57 1 (.pointer (some ⟨X.g,0,none⟩)) 58 2 (.pointer (some ⟨X.g,0,none⟩)) 59 3 (.agg #[.slice (some ⟨X.ab,X.ao,none⟩) X.n X.c]) 60 4 (.pointer (some ⟨X.g,0,none⟩)) 61 5 (.pointer (some ⟨X.g,0,none⟩)) 62 hH ?_;refine s2Z0 6 (.pointer (some ⟨X.g,4,none⟩)) 63 7 (.slice (some ⟨X.sb,X.so,none⟩) X.k X.l) 64 hH ?_;refine s1Z0 8 (.int .i64 (j:Int)) 65 hH ?_;refine Z4 9 fun K hK=>?_;go_wp2_with (go_at_call 98;(with_reducible refine ((c_argsAtG (g:=X.g) (RdSig.mk (RI.ext hHr.out.a hH.1)) (RdI.mk (RI.ext hHr.out.s hH.1)) HS.out HZ.out HZD.out (Nat.lt_of_lt_of_le hHr.out.lt hH.1.size))).mono ?_);rintro e w3 ⟨A3,cA3,rfl,hr3,hE9,hA3⟩)
     refine hK.out _ _ ⟨Ext.trans hH.1 hE9,Ext.keep hE9 hH.2.1,Ext.keep hE9 hH.2.2⟩ (fun hH9=>?_);clear hK hH;rename _=>hH;try simp only [Act.put,Zl]
     refine s1Z0 10 (.slice A3 ss.length cA3) 10 hH ?_;refine wpAnyH_done Zk ?_ _;obtain ⟨hE3,_,_⟩:=hH;have HH3:=Zh (hHr.out.ext hE3);have HO3:=Zh (hOr.out.trans (Only.of_ext hE3 X.g));have HR3:=Zh hr3;have HA3:=Zh hA3;have HRM:=Zh ((HR1.out.only hOr1.out fun b o s e _=>HA1.out b o s e).ext hE3);have hsl:=hr3.le;clear hE3 hr3 hA3 c0 c4 hcy hE9 hOr1;have c3:=HH3.out.c3;have c4:=HH3.out.c4;have hcy:w3.cell? ⟨X.sb,X.so+j,none⟩=some (.int .i64 y):=by
      obtain ⟨b,o,z,e,hz,hc⟩:=RI.at_ HH3.out.s hkj;cases e;rw [at_of HZD.out] at hz;cases hz;exact hc
     have hcx:w3.cell? ⟨X.tb,X.tq+i,none⟩=some (.int .i64 x):=by
      obtain ⟨b,o,z,e,hz,hc⟩:=RI.at_ HH3.out.t hmi;cases e;rw [at_of HUD.out] at hz;cases hz;exact hc
     -- TAIL
     obtain ⟨x0,rfl⟩:=Int.eq_ofNat_of_zero_le (show 0≤x by have:=HX0.out;omega);obtain ⟨y0,rfl⟩:=Int.eq_ofNat_of_zero_le (show 0≤y by have:=HY0.out;omega);have HREST:=Zh (HW.out.trans ((lpoB_rest HX0.out HAR.out).trans (if_neg (Int.not_lt.2 HY0.out))));have HARGS:=Zh (LC.Below.args HP.out HA.out HB.out);by_cases hxy:x0=y0
     .subst hxy;have HLEN:=Zh (HXY.out rfl);have HR2:=Zh (HREST.out.trans (if_pos rfl));have hxe:((x0:Int) == (x0:Int))=true:=by simp
      go_wp2_with fail;go_quiet (fail)
      obtain ⟨w3b,hw3b⟩:∃ w3b,w3b=w3.drewN nq:=⟨_,rfl⟩;have hE3b:Ext w3 w3b:=by rw [hw3b];exact extX
      rw [← hw3b];clear hw3b;have HH3b:=Zh (HH3.out.ext hE3b);have HO3b:=Zh (Only.of_ext hE3b X.g);cases hl:X.lex with
      | true=>
       have HL:=Zh hl;have HND:=Zh (c_needsAll HH3b.out);rw [hl] at HND;clear hl;go_wp2_with fail
       (with_reducible refine HND.out.mono ?_);rintro e w3c ⟨rfl,rfl⟩;go_wp2_with fail;go_loopw [90] (fun iv wr=>∃ q:Nat,iv=.int .i64 q∧q≤ss.length∧Hid (∀ (p:Nat) (b:Tm),p < q→ss[p]?=some b→0 < X.V (.node (x0:Int) us) b)∧Hid (X.H wr)∧Hid (Only w3 wr X.g)) (fun iv _=>ss.length - (intOf iv).toNat)
       case atStart=>exact ⟨0,rfl,Nat.zero_le _,Zh (fun p a hp=>Zo),HH3b,HO3b⟩
       case round=>
        obtain ⟨q,rfl,hq,hov,hHr,hOr⟩:=hrel;by_cases hlt:q < ss.length
        .obtain ⟨b,hb⟩:∃ b,ss[q]?=some b:=⟨ss[q],List.getElem?_eq_getElem hlt⟩;obtain ⟨hpq,hWq⟩:=LC.over_ij HP.out HA.out hb;obtain ⟨b3,o3,rfl,hc3⟩:=RI.starts_at (HR3.out.only hOr.out fun b o s e _=>HA3.out b o s e) hlt;have HG:=Zh (LC.Below.right HP.out HA.out HB.out hlt);have HBK:=Zh hb;have HWQ:=Zh hWq;obtain ⟨P1,hP1⟩:∃ P1,P1=pl j ss q:=⟨_,rfl⟩;rw [← hP1] at hc3 HWQ HG;clear hb hpq hWq hP1;have hj1:(q:Int) < (ss.length:Int):=by omega
         have hq0:(0:Int)≤(q:Int):=by omega
         by_cases hgr:0 < X.V (.node (x0:Int) us) b
         .have HGB:=Zh (show decide (0 < X.W i P1)=true by rw [HWQ.out];simpa using hgr);have HN:=Zh (show ∀ (p:Nat) (b:Tm),p < q+1→ss[p]?=some b→0 < X.V (.node (x0:Int) us) b from fun p b' hp hb'=>by
           rcases Nat.lt_or_ge p q with h | h
           .exact hov.out p b' h hb'
           .obtain rfl:p=q:=by omega
            rw [HBK.out] at hb';cases hb';exact hgr)
          clear hgr;go_wp2_with fail
          (with_reducible refine (HG.out.out HGB.out hHr.out).mono ?_);rintro e w6 ⟨rfl,hH6,hO6⟩;have HH6:=Zh hH6;have HO6:=Zh hO6;clear hH6 hO6;go_wp2;go_roundw
          case rel=>exact ⟨q+1,by go_num,Zo,HN,HH6,Zh (hOr.out.trans HO6.out)⟩
          case measure=>exact mq22
         .have HGB:=Zh (show decide (0 < X.W i P1)=false by rw [HWQ.out];simpa using hgr);have HOV:=Zh (overG_f (W:=X.V) (t:=.node (x0:Int) us) HBK.out hgr);have HR:=Zh (show V=0 by rw [HR2.out,if_pos HL.out,HOV.out];rfl);clear hgr;go_wp2_with fail
          (with_reducible refine (HG.out.out HGB.out hHr.out).mono ?_);rintro e w6 ⟨rfl,hH6,hO6⟩;have HH6:=Zh hH6;clear hH6;go_wp2;go_ret;exact ⟨ret_int x0q22,HH6.out,HO3.out.trans (hOr.out.trans hO6)⟩
        .have hqn:q=ss.length:=by omega
         have HOV:=Zh (overG_t (W:=X.V) (t:=.node (x0:Int) us) (ss:=ss) (by rw [← hqn];exact hov.out));have hH4:=hHr.out;go_wp2_with fail;go_quiet (fail)
         have HHQ:=Zh (hHr.out.ext (Ext.drewN (Ext.refl wr) nq));have hc2:=HHQ.out.c2;unfold LC.by_ at hc2;rw [HL.out] at hc2;rw [if_pos rfl] at hc2;clear hH4;have hRM:=Zh ((HRM.out.only hOr.out fun b o s e _=>HA1.out b o s e).ext (Ext.drewN (Ext.refl wr) nq));have hRO:=Zh ((HR3.out.only hOr.out fun b o s e _=>HA3.out b o s e).ext (Ext.drewN (Ext.refl wr) nq));have hOq:=Zh (hOr.out.trans (Only.of_ext (Ext.drewN (Ext.refl wr) nq) X.g));go_wp2_with fail
         (with_reducible refine (c_lexArgs HP.out HHQ.out HA.out HLEN.out hRM.out hRO.out HA1.out HA3.out HARGS.out).mono ?_);rintro e w7 ⟨rfl,hH7,hO7⟩;have HH7:=Zh hH7;clear hH7;cases hres:lexG X.V us ss with
         | true=>
          have HR:=Zh (show V=3 by rw [HR2.out];rw [if_pos HL.out,HOV.out,hres];rfl);clear hres;go_wp2;go_ret;exact ⟨ret_int x0q22,HH7.out,HO3.out.trans (hOq.out.trans hO7)⟩
         | false=>
          have HR:=Zh (show V=0 by rw [HR2.out];rw [if_pos HL.out,HOV.out,hres];rfl);clear hres;go_wp2;go_ret;exact ⟨ret_int x0q22,HH7.out,HO3.out.trans (hOq.out.trans hO7)⟩
      | false=>
       have HL:=Zh hl;have HND:=Zh (c_needsAll HH3b.out);rw [hl] at HND;clear hl;go_wp2_with fail
       (with_reducible refine HND.out.mono ?_);rintro e w3c ⟨rfl,rfl⟩;have hHr:Hid (X.H w3b):=HH3b;have hOr:Hid (Only w3b w3b X.g):=Zh (Only.refl _ _);have hH4:=hHr.out;have HRMb:=Zh (HRM.out.ext hE3b);have HR3b:=Zh (HR3.out.ext hE3b);go_wp2_with fail;go_quiet (fail)
       have HHQ:=Zh (hHr.out.ext (Ext.drewN (Ext.refl w3b) nq));have hc2:=HHQ.out.c2;unfold LC.by_ at hc2;rw [HL.out] at hc2;rw [if_neg (by decide)] at hc2;clear hH4;have hRM:=Zh ((HRMb.out.only hOr.out fun b o s e _=>HA1.out b o s e).ext (Ext.drewN (Ext.refl w3b) nq));have hRO:=Zh ((HR3b.out.only hOr.out fun b o s e _=>HA3.out b o s e).ext (Ext.drewN (Ext.refl w3b) nq));have hOq:=Zh (hOr.out.trans (Only.of_ext (Ext.drewN (Ext.refl w3b) nq) X.g));go_wp2_with fail
       (with_reducible refine (HBAG.out.out HP.out HHQ.out HA.out HLEN.out hRM.out hRO.out HA1.out HA3.out HARGS.out).mono ?_);rintro e w7 ⟨rfl,hH7,hO7⟩;have HH7:=Zh hH7;clear hH7;cases hres:bagG X.V us ss with
       | true=>
        have HR:=Zh (show V=3 by rw [HR2.out];simp [HL.out,hres]);clear hres;go_wp2;go_ret;exact ⟨ret_int x0q22,HH7.out,HO3.out.trans (HO3b.out.trans <| hOq.out.trans hO7)⟩
       | false=>
        have HR:=Zh (show V=0 by rw [HR2.out];simp [HL.out,hres]);clear hres;go_wp2;go_ret;exact ⟨ret_int x0q22,HH7.out,HO3.out.trans (HO3b.out.trans <| hOq.out.trans hO7)⟩
     .have hxe:((x0:Int) == (y0:Int))=false:=by simp;omega
      have hxe2:((y0:Int) == (x0:Int))=false:=by simp;omega
      have HXY2:=Zh (show ¬ (x0:Int)=(y0:Int) by omega);go_wp2_with fail;go_quiet (fail)
      obtain ⟨w3b,hw3b⟩:∃ w3b,w3b=w3.drewN nq:=⟨_,rfl⟩;have hE3b:Ext w3 w3b:=by rw [hw3b];exact extX
      rw [← hw3b];clear hw3b;have HH3b:=Zh (HH3.out.ext hE3b);have HO3b:=Zh (Only.of_ext hE3b X.g);have HR2:=Zh (HREST.out.trans (if_neg HXY2.out));clear hxy;go_wp2_with fail;go_loopw [90] (fun iv wr=>∃ q:Nat,iv=.int .i64 q∧q≤ss.length∧Hid (∀ (p:Nat) (b:Tm),p < q→ss[p]?=some b→0 < X.V (.node (x0:Int) us) b)∧Hid (X.H wr)∧Hid (Only w3 wr X.g)) (fun iv _=>ss.length - (intOf iv).toNat)
      case atStart=>exact ⟨0,rfl,Nat.zero_le _,Zh (fun p a hp=>Zo),HH3b,HO3b⟩
      case round=>
       obtain ⟨q,rfl,hq,hov,hHr,hOr⟩:=hrel;by_cases hlt:q < ss.length
       .obtain ⟨b,hb⟩:∃ b,ss[q]?=some b:=⟨ss[q],List.getElem?_eq_getElem hlt⟩;obtain ⟨hpq,hWq⟩:=LC.over_ij HP.out HA.out hb;obtain ⟨b3,o3,rfl,hc3⟩:=RI.starts_at (HR3.out.only hOr.out fun b o s e _=>HA3.out b o s e) hlt;have HG:=Zh (LC.Below.right HP.out HA.out HB.out hlt);have HBK:=Zh hb;have HWQ:=Zh hWq;obtain ⟨P1,hP1⟩:∃ P1,P1=pl j ss q:=⟨_,rfl⟩;rw [← hP1] at hc3 HWQ HG;clear hb hpq hWq hP1;have hj1:(q:Int) < (ss.length:Int):=by omega
        have hq0:(0:Int)≤(q:Int):=by omega
        by_cases hgr:0 < X.V (.node (x0:Int) us) b
        .have HGB:=Zh (show decide (0 < X.W i P1)=true by rw [HWQ.out];simpa using hgr);have HN:=Zh (show ∀ (p:Nat) (b:Tm),p < q+1→ss[p]?=some b→0 < X.V (.node (x0:Int) us) b from fun p b' hp hb'=>by
          rcases Nat.lt_or_ge p q with h | h
          .exact hov.out p b' h hb'
          .obtain rfl:p=q:=by omega
           rw [HBK.out] at hb';cases hb';exact hgr)
         clear hgr;go_wp2_with fail
         (with_reducible refine (HG.out.out HGB.out hHr.out).mono ?_);rintro e w6 ⟨rfl,hH6,hO6⟩;have HH6:=Zh hH6;have HO6:=Zh hO6;clear hH6 hO6;go_wp2;go_roundw
         case rel=>exact ⟨q+1,by go_num,Zo,HN,HH6,Zh (hOr.out.trans HO6.out)⟩
         case measure=>exact mq22
        .have HGB:=Zh (show decide (0 < X.W i P1)=false by rw [HWQ.out];simpa using hgr);have HOV:=Zh (overG_f (W:=X.V) (t:=.node (x0:Int) us) HBK.out hgr);have HR:=Zh (show V=0 by rw [HR2.out,if_neg (by rw [HOV.out];simp)]);clear hgr;go_wp2_with fail
         (with_reducible refine (HG.out.out HGB.out hHr.out).mono ?_);rintro e w6 ⟨rfl,hH6,hO6⟩;have HH6:=Zh hH6;clear hH6;go_wp2;go_ret;exact ⟨ret_int x0q22,HH6.out,HO3.out.trans (hOr.out.trans hO6)⟩
       .have hqn:q=ss.length:=by omega
        have HOV:=Zh (overG_t (W:=X.V) (t:=.node (x0:Int) us) (ss:=ss) (by rw [← hqn];exact hov.out));have hH4:=hHr.out;have d1:=hH4.c1;have d3:=hH4.c3;have d4:=hH4.c4;have d5:wr.cell? ⟨X.sb,X.so+j,none⟩=some (.int .i64 (y0:Int)):=by
         obtain ⟨b,o,z,e,hz,hc⟩:=RI.at_ hH4.s hkj;cases e;rw [at_of HZD.out] at hz;cases hz;exact hc
        have d6:wr.cell? ⟨X.tb,X.tq+i,none⟩=some (.int .i64 (x0:Int)):=by
         obtain ⟨b,o,z,e,hz,hc⟩:=RI.at_ hH4.t hmi;cases e;rw [at_of HUD.out] at hz;cases hz;exact hc
        obtain ⟨b6,o6,zx,e6,hzx,d7⟩:=RI.at_ hH4.r (show x0 < X.n by omega);cases e6;obtain ⟨b7,o7,zy,e7,hzy,d8⟩:=RI.at_ hH4.r (show y0 < X.n by omega);cases e7;have HKX:=Zh (show rkF X.rk (x0:Int)=zx by unfold rkF;rw [Int.toNat_natCast,List.getD_eq_getElem?_getD,hzx];rfl);have HKY:=Zh (show rkF X.rk (y0:Int)=zy by unfold rkF;rw [Int.toNat_natCast,List.getD_eq_getElem?_getD,hzy];rfl);have HH4:=Zh hH4;clear hzx hzy hH4;by_cases hrk:zy < zx
        .have hdr:decide (zy < zx)=true:=by simpa using hrk
         have HR:=Zh (show V=2 by rw [HR2.out,HKX.out,HKY.out,if_pos ⟨hrk,HOV.out⟩]);clear hrk;go_wp2_with fail;go_quiet (fail)
         go_wp2;go_ret;exact ⟨ret_int x0q22,HH4.out.ext (Ext.drewN (Ext.refl wr) nq),HO3.out.trans (hOr.out.trans (Only.of_ext (Ext.drewN (Ext.refl wr) nq) X.g))⟩
        .have hdr:decide (zy < zx)=false:=by simpa using hrk
         have HR:=Zh (show V=0 by rw [HR2.out,HKX.out,HKY.out,if_neg (fun h=>hrk h.1)]);clear hrk;go_wp2_with fail;go_quiet (fail)
         go_wp2;go_ret;exact ⟨ret_int x0q22,HH4.out.ext (Ext.drewN (Ext.refl wr) nq),HO3.out.trans (hOr.out.trans (Only.of_ext (Ext.drewN (Ext.refl wr) nq) X.g))⟩
     -- END TAIL

