/- -/
import Derived.Test.YtiblbnkpjmmjaaaGreatQ20
set_option maxRecDepth 100000
set_option maxHeartbeats 16000000
set_option linter.all false
namespace Go.Proofs.YtiblbnkpjmmjaaaGreat
open Go.RowKit
theorem Only.keep {w w':World} {g b o:Nat} {v:Value} (h:Only w w' g) (hb:b≠g) (hc:w.cell? ⟨b,o,none⟩=some v):w'.cell? ⟨b,o,none⟩=some v:=
 (World.cell?_of_block (h.block b (World.block_lt_of_cell? w _ hc) (fun e=>hb (by injection e)))).trans hc
theorem flat_eq {ar:List Int} {u v:Tm} (hu:u.Ok ar) (hv:v.Ok ar):u.flat=v.flat↔u=v:=by
 constructor
 .intro h;exact (flat_inj u v hu hv [] [] (by rw [h])).1
 .rintro rfl;rfl
def pl (i:Nat) (us:List Tm) (k:Nat):Nat:=i+1+(flatL (us.take k)).length
theorem pl_at {ar t:List Int} (hT:TermP ar t) {i k:Nat} {x:Int} {us:List Tm} {a:Tm} (hi:i < t.length) (hs:subT ar t i=.node x us) (hk:us[k]?=some a):pl i us k < t.length∧subT ar t (pl i us k)=a:=by
 obtain ⟨h1,rest,h2⟩:=subT_ok hT hi;rw [hs] at h1 h2;have h3:=drop_arg h2 hk;have h4:=OkL_iff.1 (Ok_node.1 h1).2 a (List.mem_of_getElem? hk);refine ⟨?_,subT_eq hT h4 h3⟩;have h5:=congrArg List.length h3;have h6:=flat_pos a;rw [List.length_drop,List.length_append] at h5;unfold pl;omega
structure LC.At (X:LC) (i j:Nat) (x:Int) (us:List Tm) (y:Int) (ss:List Tm):Prop where
 hi:i < X.t.length
 hj:j < X.s.length
 ti:subT X.ar X.t i=.node x us
 sj:subT X.ar X.s j=.node y ss
noncomputable abbrev LC.V (X:LC):Tm→Tm→Nat:=lpoW (rkF X.rk) X.lex
theorem LC.At.both {X:LC} (hP:X.P) {i j:Nat} {x y:Int} {us ss:List Tm} (h:X.At i j x us y ss) {p q:Nat} {a b:Tm} (ha:us[p]?=some a) (hb:ss[q]?=some b) :
 (pl i us p < X.t.length∧pl j ss q < X.s.length)∧X.W (pl i us p) (pl j ss q)=X.V a b∧X.same (pl i us p) (pl j ss q)=decide (a.flat=b.flat):=by
 obtain ⟨h1,h2⟩:=pl_at hP.tt h.hi h.ti ha;obtain ⟨h3,h4⟩:=pl_at hP.ts h.hj h.sj hb;refine ⟨⟨h1,h3⟩,by unfold LC.W;rw [h2,h4],?_⟩;unfold LC.same;rw [h2,h4];rw [Bool.eq_iff_iff];simp
theorem LC.At.ok {X:LC} (hP:X.P) {i j:Nat} {x y:Int} {us ss:List Tm} (h:X.At i j x us y ss):(Tm.node x us).Ok X.ar∧(Tm.node y ss).Ok X.ar:=by
 have h1:=(subT_ok hP.tt h.hi).1;have h2:=(subT_ok hP.ts h.hj).1;rw [h.ti] at h1;rw [h.sj] at h2;exact ⟨h1,h2⟩
theorem lexG_drop {W:Tm→Tm→Nat} {us ss:List Tm} {k:Nat} {a b:Tm} (ha:us[k]?=some a) (hb:ss[k]?=some b) :
 (a=b→lexG W (us.drop k) (ss.drop k)=lexG W (us.drop (k+1)) (ss.drop (k+1)))∧(a≠b→lexG W (us.drop k) (ss.drop k)=decide (0 < W a b)):=by
 obtain ⟨h1,rfl⟩:=List.getElem?_eq_some_iff.1 ha;obtain ⟨h2,rfl⟩:=List.getElem?_eq_some_iff.1 hb;rw [List.drop_eq_getElem_cons h1,List.drop_eq_getElem_cons h2];constructor
 .intro e;rw [lexG,if_pos e]
 .intro e;rw [lexG,if_neg e]
theorem LC.Gr.out {X:LC} {i j:Nat} {w:World} {b:Bool} (h:X.Gr i j) (hb:decide (0 < X.W i j)=b) (hw:X.H w) :
 Calls Tryz.prog 123 #[.pointer (some ⟨X.g,0,none⟩),.int .i64 (i:Int),.int .i64 (j:Int)] w (X.Tell i j w (.bool b)):=by
 subst hb;exact h w hw
theorem c_isGreater {X:LC} {i j:Nat} (hP:X.P) (hF:X.Fd i j) (hi:i < X.t.length) (hj:j < X.s.length):X.Gr i j:=by
 intro w h;obtain ⟨V,hV⟩:∃ V,V=X.W i j:=⟨_,rfl⟩;have HR:=Zh (c_reason hP hF h hi hj);rw [← hV] at HR ⊢;clear hF h hi hj hP hV;go_enter Tryz.func123,Tryz.ntmps123;go_wp2_with fail
 (with_reducible refine HR.out.mono ?_);rintro e w1 ⟨rfl,hH1,hO1⟩;have HH1:=Zh hH1;clear hH1;go_wp2;go_ret;exact ⟨rfl,HH1.out,hO1⟩
theorem c_needsAll {X:LC} {w:World} (h:X.H w):Calls Tryz.prog 124 #[.pointer (some ⟨X.g,0,none⟩)] w fun e w'=>e=.returned (.bool X.lex)∧w=w':=by
 have c2:=h.c2;clear h;unfold LC.by_ at c2;have ha1:∀ w:World,(Instr.typeAssert (.iface 95 (.agg #[])) 121 95 true).run Tryz.prog w=.ok (.tuple #[.agg #[],.bool true]) w:=fun _=>by kernel_rfl
 have ha2:∀ w:World,(Instr.typeAssert (.iface 96 (.agg #[])) 121 95 true).run Tryz.prog w=.ok (.tuple #[.agg #[],.bool false]) w:=fun _=>by kernel_rfl
 cases hl:X.lex with
 | true=>
  rw [hl,if_pos rfl] at c2;clear hl;go_enter Tryz.func124,Tryz.ntmps124;go_wp2;go_ret;exact ⟨rfl,rfl⟩
 | false=>
  rw [hl,if_neg (by decide)] at c2;clear hl;go_enter Tryz.func124,Tryz.ntmps124;go_wp2;go_ret;exact ⟨rfl,rfl⟩
theorem mq21 {p:Prop} (h:p:=by simp only [intOf];omega):p:=h
theorem c_lexArgs {X:LC} {i j:Nat} {x y:Int} {us ss:List Tm} {A B:Option Addr} {cA cB:Nat} {w:World} (hP:X.P) (h:X.H w) (hA:X.At i j x us y ss) (hl:us.length=ss.length)
 (hm:RI w A us.length (starts (i+1) us)) (ho:RI w B ss.length (starts (j+1) ss)) (hAg:∀ b o s,A=some ⟨b,o,s⟩→b≠X.g) (hBg:∀ b o s,B=some ⟨b,o,s⟩→b≠X.g)
 (ih:∀ p q,p < us.length→q < ss.length→X.Gr (pl i us p) (pl j ss q)) :
 Calls Tryz.prog 142 #[.agg #[],.pointer (some ⟨X.g,0,none⟩),.slice A us.length cA,.slice B ss.length cB] w (X.Tell i j w (.bool (lexG X.V us ss))):=by
 have hul:=hm.le;have HH:=Zh h;have HA:=Zh hA;have HL:=Zh hl;have HM:=Zh hm;have HO:=Zh ho;have HAG:=Zh hAg;have HBG:=Zh hBg;have HI:=Zh ih;have HP:=Zh hP;clear h hA hl hm ho hAg hBg ih hP;go_enter Tryz.func142,Tryz.ntmps142;go_wp2_with fail;obtain ⟨wo,hwo⟩:∃ wo,wo=w.alloc (.cells #[] 95):=⟨_,rfl⟩;have hEo:Ext w wo:=by rw [hwo];exact extX
 rw [← hwo];clear hwo;go_loopw [12] (fun i wr=>∃ q:Nat,i=.int .i64 q∧q≤us.length∧Hid (lexG X.V us ss=lexG X.V (us.drop q) (ss.drop q))∧Hid (X.H wr)∧Hid (Only w wr X.g)) (fun i _=>us.length - (intOf i).toNat)
 case atStart=>exact ⟨0,rfl,Nat.zero_le _,Zh (by rw [List.drop_zero,List.drop_zero]),Zh (HH.out.ext hEo),Zh (Only.of_ext hEo _)⟩
 case round=>
  obtain ⟨q,rfl,hq,hlx,hHr,hOr⟩:=hrel;by_cases hlt:q < us.length
  .have hlt2:q < ss.length:=by rw [← HL.out];exact hlt
   obtain ⟨a,ha⟩:∃ a,us[q]?=some a:=⟨us[q],List.getElem?_eq_getElem hlt⟩;obtain ⟨b,hb⟩:∃ b,ss[q]?=some b:=⟨ss[q],List.getElem?_eq_getElem hlt2⟩;obtain ⟨hpq,hW,hS⟩:=HA.out.both HP.out ha hb;obtain ⟨b1,o1,z1,rfl,hz1,hc1⟩:=RI.at_ (HM.out.only hOr.out fun b o s e _=>HAG.out b o s e) hlt;obtain ⟨b2,o2,z2,rfl,hz2,hc2⟩:=RI.at_ (HO.out.only hOr.out fun b o s e _=>HBG.out b o s e) hlt2;rw [starts_get hlt] at hz1;rw [starts_get hlt2] at hz2;injection hz1 with hz1
   injection hz2 with hz2
   have hz1':z1=((pl i us q:Nat):Int):=hz1.symm;have hz2':z2=((pl j ss q:Nat):Int):=hz2.symm;subst hz1' hz2';clear hz1 hz2;have HPQ:=Zh hpq;have HW:=Zh hW;have HS:=Zh hS;have HG:=Zh (HI.out q q hlt hlt2);have hbg1:=HAG.out _ _ _ rfl;have hbg2:=HBG.out _ _ _ rfl;have HE:=Zh (flat_eq (OkL_iff.1 (Ok_node.1 (HA.out.ok HP.out).1).2 a (List.mem_of_getElem? ha)) (OkL_iff.1 (Ok_node.1 (HA.out.ok HP.out).2).2 b (List.mem_of_getElem? hb)));have HLD:=Zh (lexG_drop (W:=X.V) ha hb);obtain ⟨P1,hP1⟩:∃ P1,P1=pl i us q:=⟨_,rfl⟩;obtain ⟨P2,hP2⟩:∃ P2,P2=pl j ss q:=⟨_,rfl⟩;rw [← hP1] at hc1 HPQ HW HS HG;rw [← hP2] at hc2 HPQ HW HS HG;clear ha hb hpq hW hS hP1 hP2;have hj1:(q:Int) < (us.length:Int):=by omega
   have hj2:(q:Int) < (ss.length:Int):=by omega
   have hj0:(0:Int)≤(q:Int):=by omega
   by_cases heq:a=b
   .have HN:=Zh (hlx.out.trans (HLD.out.1 heq));have HSE:=Zh (show X.same P1 P2=true by rw [HS.out];simpa using HE.out.2 heq);clear heq;go_wp2_with fail;refine wp_region_held_drew (S:=(fun w'=>Ext wr w'∧w'.cell? ⟨b1,o1+q,none⟩=some (.int .i64 (P1:Int))∧w'.cell? ⟨b2,o2+q,none⟩=some (.int .i64 (P2:Int)))) Zk ?_ (fun hH=>?_)
    .exact ⟨(Ext.refl wr).drew,hc1,hc2⟩
    refine s6Z0 0 (.pointer (some ⟨X.g,0,none⟩)) 15 1 (.slice (some ⟨b1,o1,none⟩) us.length cA) 16 2 (.int .i64 (q:Int)) 17 3 (.pointer (some ⟨b1,o1+q,none⟩)) 18 4 (.int .i64 (P1:Int)) 19 5 (.slice (some ⟨b2,o2,none⟩) ss.length cB) 20 hH ?_;refine s2Z0 6 (.int .i64 (q:Int)) 21 7 (.pointer (some ⟨b2,o2+q,none⟩)) 22 hH ?_;refine s1Z0 8 (.int .i64 (P2:Int)) 23 hH ?_;refine Z4 9 fun K hK=>?_;go_wp2_with (go_at_call 122;(with_reducible refine ((c_same' HSE.out HP.out (hHr.out.ext hH.1) HPQ.out.1 HPQ.out.2)).mono ?_);rintro e w5 ⟨rfl,hE9⟩)
    refine hK.out _ _ ⟨Ext.trans hH.1 hE9,Ext.keep hE9 hH.2.1,Ext.keep hE9 hH.2.2⟩ (fun hH9=>?_);clear hK hH;rename _=>hH;try simp only [Act.put,Zl]
    refine s1Z0 10 (.bool false) 25 hH ?_;refine wpAnyH_done Zk ?_ _;obtain ⟨hE5,_,_⟩:=hH;go_wp2;go_roundw
    case rel=>exact ⟨q+1,by go_num,Zo,HN,Zh (hHr.out.ext hE5),Zh (hOr.out.trans (Only.of_ext hE5 _))⟩
    case measure=>exact mq21
   .have HN:=Zh (hlx.out.trans (HLD.out.2 heq));have HSE:=Zh (show X.same P1 P2=false by rw [HS.out];simpa using fun e=>heq (HE.out.1 e));have HGB:=Zh (show decide (0 < X.W P1 P2)=lexG X.V us ss by rw [HW.out,HN.out]);clear heq;go_wp2_with fail;refine wp_region_held_drew (S:=(fun w'=>Ext wr w'∧w'.cell? ⟨b1,o1+q,none⟩=some (.int .i64 (P1:Int))∧w'.cell? ⟨b2,o2+q,none⟩=some (.int .i64 (P2:Int)))) Zk ?_ (fun hH=>?_)
    .exact ⟨(Ext.refl wr).drew,hc1,hc2⟩
    refine s6Z0 0 (.pointer (some ⟨X.g,0,none⟩)) 15 1 (.slice (some ⟨b1,o1,none⟩) us.length cA) 16 2 (.int .i64 (q:Int)) 17 3 (.pointer (some ⟨b1,o1+q,none⟩)) 18 4 (.int .i64 (P1:Int)) 19 5 (.slice (some ⟨b2,o2,none⟩) ss.length cB) 20 hH ?_;refine s2Z0 6 (.int .i64 (q:Int)) 21 7 (.pointer (some ⟨b2,o2+q,none⟩)) 22 hH ?_;refine s1Z0 8 (.int .i64 (P2:Int)) 23 hH ?_;refine Z4 9 fun K hK=>?_;go_wp2_with (go_at_call 122;(with_reducible refine ((c_same' HSE.out HP.out (hHr.out.ext hH.1) HPQ.out.1 HPQ.out.2)).mono ?_);rintro e w5 ⟨rfl,hE9⟩)
    refine hK.out _ _ ⟨Ext.trans hH.1 hE9,Ext.keep hE9 hH.2.1,Ext.keep hE9 hH.2.2⟩ (fun hH9=>?_);clear hK hH;rename _=>hH;try simp only [Act.put,Zl]
    refine s1Z0 10 (.bool true) 25 hH ?_;refine wpAnyH_done Zk ?_ _;obtain ⟨hE5,hc15,hc25⟩:=hH;have HH5:=Zh (hHr.out.ext hE5);go_wp2_with fail;refine wp_region_held_drew (S:=(fun w'=>X.H w'∧Only w5 w' X.g∧w'.cell? ⟨b1,o1+q,none⟩=some (.int .i64 (P1:Int))∧w'.cell? ⟨b2,o2+q,none⟩=some (.int .i64 (P2:Int)))) Zk ?_ (fun hH=>?_)
    .exact ⟨HH5.out.ext (Ext.refl w5).drew,Only.of_ext (Ext.refl w5).drew _,hc15,hc25⟩
    refine s6Z0 0 (.pointer (some ⟨X.g,0,none⟩)) 26 1 (.slice (some ⟨b1,o1,none⟩) us.length cA) 27 2 (.int .i64 (q:Int)) 28 3 (.pointer (some ⟨b1,o1+q,none⟩)) 29 4 (.int .i64 (P1:Int)) 30 5 (.slice (some ⟨b2,o2,none⟩) ss.length cB) 31 hH ?_;refine s2Z0 6 (.int .i64 (q:Int)) 32 7 (.pointer (some ⟨b2,o2+q,none⟩)) 33 hH ?_;refine s1Z0 8 (.int .i64 (P2:Int)) 34 hH ?_;refine Z4 9 fun K hK=>?_;go_wp2_with (go_at_call 123;(with_reducible refine ((HG.out.out HGB.out hH.1)).mono ?_);rintro e w6 ⟨rfl,hHx,hOx⟩)
    refine hK.out _ _ ⟨hHx,hH.2.1.trans hOx,Only.keep hOx hbg1 hH.2.2.1,Only.keep hOx hbg2 hH.2.2.2⟩ (fun hH9=>?_);clear hK hH;rename _=>hH;try simp only [Act.put,Zl]
    refine s1Z0 10 (.bool (lexG X.V us ss)) 8 hH ?_;refine wpAnyH_done Zk ?_ _;obtain ⟨hH6,hO6,_,_⟩:=hH;have HH6:=Zh hH6;clear hH6;go_wp2;go_ret;exact ⟨rfl,HH6.out,hOr.out.trans ((Only.of_ext hE5 _).trans hO6)⟩
  .have hqn:q=us.length:=by omega
   have HN:=Zh (show lexG X.V us ss=false by rw [hlx.out,hqn,List.drop_length];unfold lexG;rfl);go_wp2;go_ret;exact ⟨ret_bool HN.out.symm,hHr.out,hOr.out⟩

