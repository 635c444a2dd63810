/- -/
import Derived.Test.YtiblbnkpjmmjaaaGreatQ27
import Derived.Test.YtiblbnkpjmmjaaaGreatQ23
set_option maxRecDepth 100000
set_option maxHeartbeats 16000000
set_option linter.all false
namespace Go.Proofs.YtiblbnkpjmmjaaaGreat
theorem x0q29 {p:Prop} (h:p:=by rw [show e=(e.1,e.2) from rfl,plT_snoc,← HP2.out,List.map_append];exact hown):p:=h
open Go.RowKit
theorem OwN.ownB {w:World} {B n c g:Nat} {R:Option Addr} {xs:List Int} (h:OwN w B R n c xs) (hg:(Value.slice R n c).ownBlock=some g):R=some ⟨g,0,none⟩:=by
 rcases h.form with ⟨rfl,_⟩ | ⟨g',rfl,_⟩
 .cases hg
 .cases hg;rfl
theorem append_apart {w wx:World} {B B' n c nr cr g:Nat} {A R:Option Addr} {xs rs:List Int} {o:Obj} (hA:OwN w B A n c xs) (hR:OwN w B' R nr cr rs) (hap:ApartA A R)
 (hg:(w.alloc o).grownBy wx (Value.slice R nr cr).ownBlock) (hat:(Value.slice R nr cr).ownBlock=some g∨g=w.heap.size+1):OwN wx B A n c xs∧ApartA A (some ⟨g,0,none⟩):=by
 refine ⟨hA.heap fun b e=>?_,fun b c' e1 e2=>?_⟩
 .have hb:=(hA.bd b 0 none e).2;refine (hg.block b (by simp [go_sem];omega) fun e2=>?_).trans ((Ext.alloc (Ext.refl w) o).block b hb);exact hap b b e (hR.ownB e2.symm) rfl
 .cases e2;have hb:=(hA.bd b 0 none e1).2;rcases hat with h | h
  .exact hap b g e1 (hR.ownB h)
  .omega
theorem ApartA.new {w:World} {B n c g:Nat} {A:Option Addr} {xs:List Int} (h:OwN w B A n c xs) (hg:w.heap.size≤g):ApartA A (some ⟨g,0,none⟩):=fun b c' e1 e2=>by
 cases e2;have:=(h.bd b 0 none e1).2;omega
def OutSt (L R:List (Tm×Nat)) (b:Tm) (n:Nat) (dn:Bool):Prop:=(dn=false∧R=L.take n∧∀ (j:Nat) (e:Tm×Nat),j < n→L[j]?=some e→e.1≠b) ∨
 (dn=true∧∃ k p,k < n∧L[k]?=some (b,p)∧(∀ (j:Nat) (e:Tm×Nat),j < k→L[j]?=some e→e.1≠b)∧R=(L.take n).eraseIdx k)
theorem take_snoc' {α:Type} {l:List α} {n:Nat} {a:α} (h:l[n]?=some a):l.take (n+1)=l.take n++[a]:=by
 rw [List.take_add_one,h];rfl
theorem OutSt.next_out {L R:List (Tm×Nat)} {b:Tm} {n:Nat} {e:Tm×Nat} (h:OutSt L R b n false) (he:L[n]?=some e) (hne:e.1≠b):OutSt L (R++[e]) b (n+1) false:=by
 rcases h with ⟨_,rfl,h2⟩ | ⟨h,_⟩
 .refine .inl ⟨rfl,(take_snoc' he).symm,fun j e' hj he'=>?_⟩;rcases Nat.lt_or_ge j n with h | h
  .exact h2 j e' h he'
  .obtain rfl:j=n:=by omega
   rw [he] at he';cases he';exact hne
 .cases h
theorem OutSt.next_in {L R:List (Tm×Nat)} {b:Tm} {n p:Nat} (h:OutSt L R b n false) (he:L[n]?=some (b,p)):OutSt L R b (n+1) true:=by
 rcases h with ⟨_,rfl,h2⟩ | ⟨h,_⟩
 .refine .inr ⟨rfl,n,p,Zo,he,h2,?_⟩;have hn:=(List.getElem?_eq_some_iff.1 he).1;rw [take_snoc' he,List.eraseIdx_append_of_length_le (by rw [List.length_take];omega)];rw [List.length_take,Nat.min_eq_left Zo,Nat.sub_self];simp
 .cases h
theorem OutSt.next_t {L R:List (Tm×Nat)} {b:Tm} {n:Nat} {e:Tm×Nat} (h:OutSt L R b n true) (he:L[n]?=some e):OutSt L (R++[e]) b (n+1) true:=by
 rcases h with ⟨h,_⟩ | ⟨_,k,p,h1,h2,h3,rfl⟩
 .cases h
 .have hn:=(List.getElem?_eq_some_iff.1 he).1;refine .inr ⟨rfl,k,p,Zo,h2,h3,?_⟩;rw [take_snoc' he,List.eraseIdx_append_of_lt_length (by rw [List.length_take];omega)]
theorem plT_take_any {V:Nat→Nat→Int} {W:Tm→Tm→Nat} {us:List Tm} {j q:Nat} {L:List (Tm×Nat)} {b:Tm} (h:∀ e∈L,Told (V q (pl j us e.2)) (W e.1 b)):L.any (fun e=>decide (0 < V q (pl j us e.2)))=anyG W (L.map (·.1)) b:=by
 unfold anyG;rw [List.any_map];refine any_congr fun e he=>?_;show decide _=decide (0 < W e.1 b);have:=(h e he).1;by_cases h0:0 < W e.1 b
 .rw [decide_eq_true h0,decide_eq_true (this.2 h0)]
 .rw [decide_eq_false h0,decide_eq_false fun h1=>h0 (this.1 h1)]
theorem mq29 {p:Prop} (h:p:=by simp only [intOf];omega):p:=h
theorem c_l13Bags {Y:SC} {i j:Nat} {x y:Int} {us ss:List Tm} {V:Nat→Nat→Int} {W:Tm→Tm→Nat} {w:World} {b0:Bool} (hb0:bagG W us ss=b0) (hP:Y.P) (h:Y.H w V) (hA:Y.At i j y ss x us) (hl:us.length=ss.length) (hV:∀ k q a b,us[k]?=some a→ss[q]?=some b→Told (V (pl i ss q) (pl j us k)) (W a b)) :
 Calls Tryz.prog 78 #[.pointer (some ⟨Y.g,0,none⟩),.int .i64 (i:Int),.int .i64 (j:Int)] w fun e w'=>e=.returned (.bool b0)∧Ext w w':=by
 have hik:i < Y.k:=by rw [← h.s.len];exact hA.hi
 have hjm:j < Y.m:=by rw [← h.t.len];exact hA.hj
 have hi0:(0:Int)≤(i:Int):=by omega
 have hj0:(0:Int)≤(j:Int):=by omega
 have hii:(i:Int) < (Y.k:Int):=by omega
 have hjj:(j:Int) < (Y.m:Int):=by omega
 have hus3:us.length≤3:=arI_le hP.sig (Ok_node.1 (hA.ok hP).2).1;have hss3:ss.length≤3:=by omega
 have c4:=h.c4;have c5:=h.c5;have c6:=h.c6;have HH:=Zh h;have HP:=Zh hP;have HA:=Zh hA;have HV:=Zh hV;have HB0:=Zh hb0;obtain ⟨A,cA,hca,hra⟩:=h.args_s hA;have HRA:=Zh hra;obtain ⟨B,cB,hcb,hrb⟩:=h.args_t hA;have hrb2:=hrb;rw [plT_start] at hrb2;have HRB:=Zh hrb2;have hgl:Y.g < w.heap.size:=World.block_lt_of_cell? w _ c5;have hql:Y.qa < w.heap.size:=World.block_lt_of_cell? w _ hcb;obtain ⟨i0,hii0,hiz,his,hib⟩:=info_parts int_info;clear h hP hA hV hb0 hra hrb hrb2 hl;go_enter Tryz.func78,Tryz.ntmps78;go_wp2_with (at_builtin;go_loud (refine wpList_append_newN rfl (.tmp 16) (.tmp 23) 135 rfl i0 Tryz.underlying135 hii0 hiz his hib (D:=w.heap.size) rfl (OwN.none0 (Nat.le_refl _)) rfl (RI.ext HRB.out extX) (by go_size) ?_))
 intro A1 c1 w1 hO1 hg1 hat1;have hE1:Ext w w1:=Ext.grown ((Ext.refl w).alloc _) hg1 (fun k hk=>by cases hk;exact Nat.le_refl _);have HO1:=Zh hO1;clear hO1 hg1 hat1;go_wp2_with fail;obtain ⟨w2,hw2⟩:∃ w2,w2=w1.alloc (.cells #[] 3):=⟨_,rfl⟩;have hE2:Ext w w2:=by rw [hw2];exact extX
 have HO2:=Zh (show OwN w2 w.heap.size (some ⟨w1.heap.size,0,none⟩) 0 0 [] by rw [hw2];exact OwN.none0 hE1.size);have HO12:=Zh (show OwN w2 w.heap.size A1 us.length c1 (plT j us us.zipIdx) by rw [hw2];exact HO1.out.alloc _);have HAP:=Zh (ApartA.new HO1.out (Nat.le_refl w1.heap.size));rw [← hw2];clear hw2;go_loopw [7,8,9] (fun lv mv kv wr=>∃ q:Nat,kv=.int .i64 q∧q≤ss.length∧(∃ A n c A' n' c',lv=.slice A n c∧n≤3∧mv=.slice A' n' c'∧n'≤q∧Hid (ApartA A A'∧∃ L M,BagSt us ss q L M∧OwN wr w.heap.size A n c (plT j us L)∧OwN wr w.heap.size A' n' c' (plT i ss M)))∧Ext w wr) (fun _ _ kv _=>ss.length - (intOf kv).toNat)
 case atStart=>exact ⟨0,rfl,Nat.zero_le _,⟨A1,us.length,c1,some ⟨w1.heap.size,0,none⟩,0,0,rfl,hus3,rfl,Nat.le_refl _,Zh ⟨HAP.out,us.zipIdx,[],BagSt.start us ss,HO12.out,HO2.out⟩⟩,hE2⟩
 case round=>
  obtain ⟨q,rfl,hq,⟨A2,n2,c2,A3,n3,c3,rfl,hn2,rfl,hn3,hSt⟩,hE⟩:=hrel;obtain ⟨hap,L,M,hst,hol,hom⟩:=hSt.out;have HST:=Zh hst;have HOL:=Zh hol;have HOM:=Zh hom;have HAPT:=Zh hap;have HHr:=Zh (HH.out.ext hE);have r4:=Ext.keep hE c4;have ra:=Ext.keep hE hca;have hLl:L.length=n2:=by rw [← plT_len j us L];exact hol.len
  have hMl:M.length=n3:=by rw [← plT_len i ss M];exact hom.len
  have HLL:=Zh hLl;have HML:=Zh hMl;clear hap hst hol hom hSt hLl hMl;by_cases hlt:q < ss.length
  .obtain ⟨b,hb⟩:∃ b,ss[q]?=some b:=⟨ss[q],List.getElem?_eq_getElem hlt⟩;obtain ⟨hpq,hsq⟩:=HA.out.ps HP.out hb;obtain ⟨b3,o3,rfl,hc3⟩:=RI.starts_at (RI.ext HRA.out hE) hlt;obtain ⟨P1,hP1⟩:∃ P1,P1=pl i ss q:=⟨_,rfl⟩;rw [← hP1] at hc3 hpq hsq;have hq1:(q:Int) < (ss.length:Int):=by omega
   have hq0:(0:Int)≤(q:Int):=by omega
   have HBK:=Zh hb;have HPQ:=Zh hpq;have HSQ:=Zh hsq;have HP1:=Zh hP1;clear hb hpq hsq hP1;go_wp2_with fail
   -- BODY
   obtain ⟨wy,rfl⟩:∃ wy:World,wy=wr:=⟨_,rfl⟩;obtain ⟨wq,hwq⟩:∃ wq,wq=wy.alloc (.cells #[] 3):=⟨_,rfl⟩;have hEq:Ext wy wq:=by rw [hwq];exact extX
   have HOQ:=Zh (show OwN wq w.heap.size (some ⟨wy.heap.size,0,none⟩) 0 0 [] by rw [hwq];exact OwN.none0 hE.size);have HQN:=Zh (show wy.heap.size < wq.heap.size by rw [hwq];simp [go_sem]);have HAPa:=Zh (ApartA.new HOL.out (Nat.le_refl wy.heap.size));have HAPb:=Zh (ApartA.new HOM.out (Nat.le_refl wy.heap.size));have HOLq:=Zh (HOL.out.ext hEq);have HOMq:=Zh (HOM.out.ext hEq);have hwrq:=hwq;rw [← hwq];clear hwq hwrq;obtain ⟨wz,hwz⟩:∃ wz,wz=wy.heap.size:=⟨_,rfl⟩;rw [← hwz] at HOQ HQN HAPa HAPb ⊢;have HWZ:=Zh hwz;clear hwz;go_loopw [10,11,12] (fun rv dv nv wr=>∃ n:Nat,nv=.int .i64 n∧n≤n2∧∃ dn:Bool,dv=.bool dn∧(∃ A n' c',rv=.slice A n' c'∧n'≤n∧Hid (∃ R,OutSt L R b n dn∧OwN wr w.heap.size A n' c' (plT j us R)∧ApartA A2 A∧ApartA A3 A∧OwN wr w.heap.size A2 n2 c2 (plT j us L)∧OwN wr w.heap.size A3 n3 c3 (plT i ss M)∧∀ g,A=some ⟨g,0,none⟩→wz≤g))∧Ext wy wr) (fun _ _ nv _=>n2 - (intOf nv).toNat)
   case atStart=>exact ⟨0,rfl,Nat.zero_le _,false,rfl,⟨_,0,0,rfl,Nat.le_refl _,Zh ⟨[],.inl ⟨rfl,by simp,fun j e hj=>Zo⟩,HOQ.out,HAPa.out,HAPb.out,HOLq.out,HOMq.out,fun g e=>by cases e;exact Nat.le_refl _⟩⟩,hEq⟩
   case round=>
    obtain ⟨n,rfl,hn,dn,rfl,⟨AR,nr,cr,rfl,hnr,hR⟩,hEi⟩:=hrel;obtain ⟨R,hout,hor,hap2,hap3,holi,homi,hrn⟩:=hR.out;have HOUT:=Zh hout;have HOR:=Zh hor;have HAP2:=Zh hap2;have HAP3:=Zh hap3;have HOLi:=Zh holi;have HOMi:=Zh homi;have HRN:=Zh hrn;clear hout hor hap2 hap3 holi homi hrn hR;have hEw:Ext w wr:=Ext.trans hE hEi;have HHi:=Zh (HH.out.ext hEw);have s4:=Ext.keep hEi r4;have sa:=Ext.keep hEi ra;have hc3i:=Ext.keep hEi hc3;by_cases hln:n < n2
    .obtain ⟨b4,o4,z,rfl,hz,hc4⟩:=RI.at_ HOLi.out.ri hln;obtain ⟨e,he,rfl⟩:=plT_get hz;have hue:=HST.out.1 e (List.mem_of_getElem? he);obtain ⟨hpq2,hsq2⟩:=HA.out.pt HP.out hue;obtain ⟨P2,hP2⟩:∃ P2,P2=pl j us e.2:=⟨_,rfl⟩;rw [← hP2] at hc4 hpq2 hsq2;have hn1:(n:Int) < (n2:Int):=by omega
     have hn0:(0:Int)≤(n:Int):=by omega
     have HEK:=Zh he;have HPQ2:=Zh hpq2;have HP2:=Zh hP2;have HEQ:=Zh (show ((subT Y.ar Y.s P1).flat == (subT Y.ar Y.t P2).flat)=true↔e.1=b by
      rw [HSQ.out,hsq2,beq_iff_eq];have e1:=flat_eq (OkL_iff.1 (Ok_node.1 (HA.out.ok HP.out).1).2 b (List.mem_of_getElem? HBK.out)) (OkL_iff.1 (Ok_node.1 (HA.out.ok HP.out).2).2 e.1 (List.mem_of_getElem? hue));rw [e1];exact eq_comm)
     clear he hue hpq2 hsq2 hP2 hz;cases dn with
     | true=>
      go_wp2_with fail;go_quiet (fail)
      obtain ⟨w5,hw5⟩:∃ w5,w5=wr.drewN nq:=⟨_,rfl⟩;have hE5:Ext wr w5:=by rw [hw5];exact extX
      rw [← hw5];clear hw5;have HOR5:=Zh (HOR.out.ext hE5);have HOL5:=Zh (HOLi.out.ext hE5);have HOM5:=Zh (HOMi.out.ext hE5);have hcz5:w5.cell? ⟨b4,o4+n,none⟩=some (.int .i64 (P2:Int)):=Ext.keep hE5 hc4;have hEw5:Ext w w5:=Ext.trans hEw hE5;have hsz5:=hEw5.size;go_wp2_with (at_builtin;go_loud (refine wpList_append_lies _ rfl (.tmp 65) (.tmp 70) 135 rfl w.heap.size 3 i0 (.int .i64 0) 1 8 Tryz.underlying135 hii0 hiz his hib rfl (by decide) _ _ _ rfl (OwN.alloc HOR5.out _).2 ⟨w5.heap.size,0,none⟩ 1 1 [.int .i64 (P2:Int)] rfl rfl (one_cells _ _ _) (one_one _) (by decide) (by unfold maxLen;omega) Zo (by go_size) _ rfl ?_))
      intro g6 cap w6 hown hg hat hltg;have hE6w:Ext wy w6:=Ext.grown ((Ext.trans hEi hE5).alloc _) hg (fun k hk=>by have:=HRN.out k (HOR5.out.ownB hk);rw [HWZ.out] at this;exact this);have HOR6:=Zh (show OwN w6 w.heap.size (some ⟨g6,0,none⟩) (nr+1) cap (plT j us (R++[e])) from ⟨Zo,x0q29⟩);have h61:=append_apart HOL5.out HOR5.out HAP2.out hg hat
      have h62:=append_apart HOM5.out HOR5.out HAP3.out hg hat
      have HRN6:=Zh (show ∀ g,(some ⟨g6,0,none⟩:Option Addr)=some ⟨g,0,none⟩→wz≤g from fun g e2=>by
       cases e2;rcases hat with h | h
       .exact HRN.out g6 (HOR5.out.ownB h)
       .have h1:=(Ext.trans hEi hE5).size;have h2:=HWZ.out;omega)
      have HX:=Zh h61;have HX2:=Zh h62;clear hown hg hat h61 h62;go_wp2;go_roundw
      case rel=>exact ⟨n+1,by go_num,Zo,true,rfl,⟨_,_,_,rfl,Zo,Zh ⟨R++[e],HOUT.out.next_t HEK.out,HOR6.out,HX.out.2,HX2.out.2,HX.out.1,HX2.out.1,HRN6.out⟩⟩,hE6w⟩
      case measure=>exact mq29
     | false=>
      by_cases heb:e.1=b
      .have HSE:=Zh (HEQ.out.2 heb);have HN:=Zh (HOUT.out.next_in (p:=e.2) (by rw [HEK.out,← heb]));clear heb;go_wp2_with fail;refine wp_region_held_drew (S:=(fun w'=>Ext wr w'∧w'.cell? ⟨Y.g,4,none⟩=some (.slice (some ⟨Y.pa,0,none⟩) Y.k Y.pc)∧w'.cell? ⟨Y.pa,i,none⟩=some (.slice (some ⟨b3,o3,none⟩) ss.length cA)∧w'.cell? ⟨b3,o3+q,none⟩=some (.int .i64 (P1:Int))∧w'.cell? ⟨b4,o4+n,none⟩=some (.int .i64 (P2:Int)))) Zk ?_ (fun hH=>?_)
       .exact ⟨(Ext.refl wr).drew,s4,sa,hc3i,hc4⟩
       refine s6Z0 0 (.bool false) 45 1 (.bool true) 46 2 (.bool true) 47 3 (.pointer (some ⟨Y.g,0,none⟩)) 48 4 (.pointer (some ⟨Y.g,0,none⟩)) 49 5 (.pointer (some ⟨Y.g,0,none⟩)) 50 hH ?_;refine s6Z0 6 (.pointer (some ⟨Y.g,4,none⟩)) 51 7 (.slice (some ⟨Y.pa,0,none⟩) Y.k Y.pc) 52 8 (.int .i64 (i:Int)) 53 9 (.pointer (some ⟨Y.pa,i,none⟩)) 54 10 (.slice (some ⟨b3,o3,none⟩) ss.length cA) 55 11 (.int .i64 (q:Int)) 56 hH ?_;refine s6Z0 12 (.pointer (some ⟨b3,o3+q,none⟩)) 57 13 (.int .i64 (P1:Int)) 58 14 (.slice (some ⟨b4,o4,none⟩) n2 c2) 59 15 (.int .i64 (n:Int)) 60 16 (.pointer (some ⟨b4,o4+n,none⟩)) 61 17 (.int .i64 (P2:Int)) 62 hH ?_;refine Z4 18 fun K hK=>?_;go_wp2_with (go_at_call 105;(with_reducible refine ((c_l13Same HSE.out HP.out (HHi.out.ext hH.1) HPQ.out HPQ2.out)).mono ?_);rintro e w5 ⟨rfl,hE9⟩)
       refine hK.out _ _ ⟨Ext.trans hH.1 hE9,Ext.keep hE9 hH.2.1,Ext.keep hE9 hH.2.2.1,Ext.keep hE9 hH.2.2.2.1,Ext.keep hE9 hH.2.2.2.2⟩ (fun hH9=>?_);clear hK hH;rename _=>hH;try simp only [Act.put,Zl]
       refine s1Z0 19 (.bool true) 64 hH ?_;refine wpAnyH_done Zk ?_ _;obtain ⟨hE5,_,_,_,_⟩:=hH;have HOR5:=Zh (HOR.out.ext hE5);have HOL5:=Zh (HOLi.out.ext hE5);have HOM5:=Zh (HOMi.out.ext hE5);go_wp2;go_roundw
       case rel=>exact ⟨n+1,by go_num,Zo,true,rfl,⟨_,_,_,rfl,Zo,Zh ⟨R,HN.out,HOR5.out,HAP2.out,HAP3.out,HOL5.out,HOM5.out,HRN.out⟩⟩,Ext.trans hEi hE5⟩
       case measure=>exact mq29
      .have HSE:=Zh (show ((subT Y.ar Y.s P1).flat == (subT Y.ar Y.t P2).flat)=false by
        cases h:((subT Y.ar Y.s P1).flat == (subT Y.ar Y.t P2).flat) with
        | true=>exact absurd (HEQ.out.1 h) heb
        | false=>rfl)
       have HN:=Zh (HOUT.out.next_out HEK.out heb);clear heb;go_wp2_with fail;refine wp_region_held_drew (S:=(fun w'=>Ext wr w'∧w'.cell? ⟨Y.g,4,none⟩=some (.slice (some ⟨Y.pa,0,none⟩) Y.k Y.pc)∧w'.cell? ⟨Y.pa,i,none⟩=some (.slice (some ⟨b3,o3,none⟩) ss.length cA)∧w'.cell? ⟨b3,o3+q,none⟩=some (.int .i64 (P1:Int))∧w'.cell? ⟨b4,o4+n,none⟩=some (.int .i64 (P2:Int)))) Zk ?_ (fun hH=>?_)
       .exact ⟨(Ext.refl wr).drew,s4,sa,hc3i,hc4⟩
       refine s6Z0 0 (.bool false) 45 1 (.bool true) 46 2 (.bool true) 47 3 (.pointer (some ⟨Y.g,0,none⟩)) 48 4 (.pointer (some ⟨Y.g,0,none⟩)) 49 5 (.pointer (some ⟨Y.g,0,none⟩)) 50 hH ?_;refine s6Z0 6 (.pointer (some ⟨Y.g,4,none⟩)) 51 7 (.slice (some ⟨Y.pa,0,none⟩) Y.k Y.pc) 52 8 (.int .i64 (i:Int)) 53 9 (.pointer (some ⟨Y.pa,i,none⟩)) 54 10 (.slice (some ⟨b3,o3,none⟩) ss.length cA) 55 11 (.int .i64 (q:Int)) 56 hH ?_;refine s6Z0 12 (.pointer (some ⟨b3,o3+q,none⟩)) 57 13 (.int .i64 (P1:Int)) 58 14 (.slice (some ⟨b4,o4,none⟩) n2 c2) 59 15 (.int .i64 (n:Int)) 60 16 (.pointer (some ⟨b4,o4+n,none⟩)) 61 17 (.int .i64 (P2:Int)) 62 hH ?_;refine Z4 18 fun K hK=>?_;go_wp2_with (go_at_call 105;(with_reducible refine ((c_l13Same HSE.out HP.out (HHi.out.ext hH.1) HPQ.out HPQ2.out)).mono ?_);rintro e w5 ⟨rfl,hE9⟩)
       refine hK.out _ _ ⟨Ext.trans hH.1 hE9,Ext.keep hE9 hH.2.1,Ext.keep hE9 hH.2.2.1,Ext.keep hE9 hH.2.2.2.1,Ext.keep hE9 hH.2.2.2.2⟩ (fun hH9=>?_);clear hK hH;rename _=>hH;try simp only [Act.put,Zl]
       refine s1Z0 19 (.bool false) 64 hH ?_;refine wpAnyH_done Zk ?_ _;obtain ⟨hE5,_,_,_,_⟩:=hH;have HOR5:=Zh (HOR.out.ext hE5);have HOL5:=Zh (HOLi.out.ext hE5);have HOM5:=Zh (HOMi.out.ext hE5);have hcz5:w5.cell? ⟨b4,o4+n,none⟩=some (.int .i64 (P2:Int)):=Ext.keep hE5 hc4;have hEw5:Ext w w5:=Ext.trans hEw hE5;have hsz5:=hEw5.size;go_wp2_with (at_builtin;go_loud (refine wpList_append_lies _ rfl (.tmp 65) (.tmp 70) 135 rfl w.heap.size 3 i0 (.int .i64 0) 1 8 Tryz.underlying135 hii0 hiz his hib rfl (by decide) _ _ _ rfl (OwN.alloc HOR5.out _).2 ⟨w5.heap.size,0,none⟩ 1 1 [.int .i64 (P2:Int)] rfl rfl (one_cells _ _ _) (one_one _) (by decide) (by unfold maxLen;omega) Zo (by go_size) _ rfl ?_))
       intro g6 cap w6 hown hg hat hltg;have hE6w:Ext wy w6:=Ext.grown ((Ext.trans hEi hE5).alloc _) hg (fun k hk=>by have:=HRN.out k (HOR5.out.ownB hk);rw [HWZ.out] at this;exact this);have HOR6:=Zh (show OwN w6 w.heap.size (some ⟨g6,0,none⟩) (nr+1) cap (plT j us (R++[e])) from ⟨Zo,x0q29⟩);have h61:=append_apart HOL5.out HOR5.out HAP2.out hg hat
       have h62:=append_apart HOM5.out HOR5.out HAP3.out hg hat
       have HRN6:=Zh (show ∀ g,(some ⟨g6,0,none⟩:Option Addr)=some ⟨g,0,none⟩→wz≤g from fun g e2=>by
        cases e2;rcases hat with h | h
        .exact HRN.out g6 (HOR5.out.ownB h)
        .have h1:=(Ext.trans hEi hE5).size;have h2:=HWZ.out;omega)
       have HX:=Zh h61;have HX2:=Zh h62;clear hown hg hat h61 h62;go_wp2;go_roundw
       case rel=>exact ⟨n+1,by go_num,Zo,false,rfl,⟨_,_,_,rfl,Zo,Zh ⟨R++[e],HN.out,HOR6.out,HX.out.2,HX2.out.2,HX.out.1,HX2.out.1,HRN6.out⟩⟩,hE6w⟩
       case measure=>exact mq29
    .have hnn:n=n2:=by omega
     have hE6:Ext w wr:=hEw;cases dn with
     | true=>
      have HN:=Zh (show BagSt us ss (q+1) R M from by
       rcases HOUT.out with ⟨h,_⟩ | ⟨_,k,p,h1,h2,h3,h4⟩
       .cases h
       .rw [h4,List.take_of_length_le (by rw [HLL.out];omega)];exact HST.out.inn HBK.out h2 h3)
      go_wp2;go_roundw
      case rel=>exact ⟨q+1,by go_num,Zo,⟨_,_,_,_,_,_,rfl,Zo,rfl,Zo,Zh ⟨(fun b c e1 e2=>Ne.symm (HAP3.out c b e2 e1)),R,M,HN.out,HOR.out,HOMi.out⟩⟩,hE6⟩
      case measure=>exact mq29
     | false=>
      have HRL:=Zh (show R=L∧∀ (j:Nat) (e:Tm×Nat),L[j]?=some e→e.1≠b from by
       rcases HOUT.out with ⟨_,h1,h2⟩ | ⟨h,_⟩
       .refine ⟨by rw [h1,List.take_of_length_le (by rw [HLL.out];omega)],fun j e he=>h2 j e ?_ he⟩;have:=(List.getElem?_eq_some_iff.1 he).1;rw [HLL.out] at this;omega
       .cases h)
      have HN:=Zh (HST.out.out HBK.out HRL.out.2);have HRL1:=Zh HRL.out.1;clear HRL;have hsz6:=hE6.size;go_wp2_with (at_builtin;go_loud (refine wpList_append_lies _ rfl (.tmp 75) (.tmp 86) 135 rfl w.heap.size 3 i0 (.int .i64 0) 1 8 Tryz.underlying135 hii0 hiz his hib rfl (by decide) _ _ _ rfl (OwN.alloc HOMi.out _).2 ⟨wr.heap.size,0,none⟩ 1 1 [.int .i64 (P1:Int)] rfl rfl (one_cells _ _ _) (one_one _) (by decide) (by unfold maxLen;omega) Zo (by go_size) _ rfl ?_))
      intro g6 cap w6 hown hg hat hltg;have hE6w:Ext w w6:=Ext.grown (hE6.alloc _) hg (fun k hk=>(HOMi.out.bd k 0 none (HOMi.out.ownB hk)).1);have HOM6:=Zh (show OwN w6 w.heap.size (some ⟨g6,0,none⟩) (n3+1) cap (plT i ss (M++[(b,q)])) from ⟨Zo,by rw [plT_snoc,← HP1.out,List.map_append];exact hown⟩);have h61:=append_apart HOR.out HOMi.out (fun b c e1 e2=>Ne.symm (HAP3.out c b e2 e1)) hg hat
      have HX:=Zh h61;clear hown hg hat h61;go_wp2;go_roundw
      case rel=>exact ⟨q+1,by go_num,Zo,⟨_,_,_,_,_,_,rfl,Zo,rfl,Zo,Zh ⟨HX.out.2,R,M++[(b,q)],by rw [HRL1.out];exact HN.out,HX.out.1,HOM6.out⟩⟩,hE6w⟩
      case measure=>exact mq29
  .have HD:=Zh (HST.out.done Zo);have HOLr:=Zh HOL.out.ri;have HOMr:=Zh HOM.out.ri;have r6:=Ext.keep hE c6;clear HOL HOM;go_wp2_with fail;obtain ⟨wl,hwl⟩:∃ wl,wl=wr:=⟨_,rfl⟩;have hEl:Ext w wl:=by rw [hwl];exact hE
   have HOLl:Hid (RI wl A2 n2 (plT j us L)):=by rw [hwl];exact HOLr
   have HOMl:Hid (RI wl A3 n3 (plT i ss M)):=by rw [hwl];exact HOMr
   have r6l:wl.cell? ⟨Y.g,6,none⟩=some (.slice (some ⟨Y.wb,0,none⟩) Y.k Y.wc):=by rw [hwl];exact r6
   rw [← hwl];clear hwl HOLr HOMr hE HHr r4 ra r6;go_loopw [13] (fun mv wr=>∃ m:Nat,mv=.int .i64 m∧m≤n3∧Hid (∀ (p:Nat) (e:Tm×Nat),p < m→M[p]?=some e→anyG W (L.map (·.1)) e.1=true)∧Ext wl wr) (fun mv _=>n3 - (intOf mv).toNat)
   case atStart=>exact ⟨0,rfl,Nat.zero_le _,Zh (fun p e hp=>Zo),Ext.refl _⟩
   case round=>
    obtain ⟨m,rfl,hm,hall,hEm⟩:=hrel;by_cases hlm:m < n3
    .obtain ⟨b3,o3,z,rfl,hz,hcz⟩:=RI.at_ (HOMl.out.ext hEm) hlm;obtain ⟨⟨b,q3⟩,he,rfl⟩:=plT_get hz;have hbk:=HST.out.2.1 _ (List.mem_of_getElem? he);obtain ⟨hpq3,_⟩:=HA.out.ps HP.out hbk;have hany:=plT_take_any (V:=V) (W:=W) (us:=us) (j:=j) (q:=pl i ss q3) (L:=L) (b:=b) (fun e hel=>HV.out e.2 q3 e.1 b (HST.out.1 e hel) hbk);obtain ⟨P3,hP3⟩:∃ P3,P3=pl i ss q3:=⟨_,rfl⟩;have hcz':wr.cell? ⟨b3,o3+m,none⟩=some (.int .i64 (P3:Int)):=by rw [hP3];exact hcz
     rw [← hP3] at hpq3 hany;have hpm3:P3 < Y.k:=by rw [← HH.out.s.len];exact hpq3
     have hp3i:(P3:Int) < (Y.k:Int):=by omega
     have hp30:(0:Int)≤(P3:Int):=by omega
     have hm1:(m:Int) < (n3:Int):=by omega
     have hm0:(0:Int)≤(m:Int):=by omega
     have HME:=Zh he;have HANY:=Zh hany;clear hz he hbk hcz hP3 hany hpq3;go_wp2_with fail;obtain ⟨wm,hwm⟩:∃ wm,wm=wr:=⟨_,rfl⟩;have hEmm:Ext wl wm:=by rw [hwm];exact hEm
     have hcz2:wm.cell? ⟨b3,o3+m,none⟩=some (.int .i64 (P3:Int)):=by rw [hwm];exact hcz'
     rw [← hwm];clear hwm hcz' hEm;have hEwm:Ext w wm:=Ext.trans hEl hEmm;go_loopw [14,15] (fun sv nv wr=>∃ n:Nat,nv=.int .i64 n∧n≤n2∧∃ sb:Bool,sv=.bool sb∧Hid (sb=(L.take n).any (fun e=>decide (0 < V P3 (pl j us e.2))))∧Ext wm wr) (fun _ nv _=>n2 - (intOf nv).toNat)
     case atStart=>exact ⟨0,rfl,Nat.zero_le _,false,rfl,Zh (by simp),Ext.refl _⟩
     case round=>
      obtain ⟨n,rfl,hn,sb,rfl,hsb,hEn⟩:=hrel;have hEwn:Ext w wr:=Ext.trans hEwm hEn;by_cases hln:n < n2
      .obtain ⟨b4,o4,z,rfl,hz,hc4⟩:=RI.at_ (HOLl.out.ext (Ext.trans hEmm hEn)) hln;obtain ⟨e,he,rfl⟩:=plT_get hz;have hue:=HST.out.1 e (List.mem_of_getElem? he);obtain ⟨hpq2,_⟩:=HA.out.pt HP.out hue;obtain ⟨P2,hP2⟩:∃ P2,P2=pl j us e.2:=⟨_,rfl⟩;rw [← hP2] at hc4 hpq2;have hpm2:P2 < Y.m:=by rw [← HH.out.t.len];exact hpq2
       have hn1:(n:Int) < (n2:Int):=by omega
       have hn0:(0:Int)≤(n:Int):=by omega
       have hp2i:(P2:Int) < (Y.m:Int):=by omega
       have hp20:(0:Int)≤(P2:Int):=by omega
       obtain ⟨vv,hvv⟩:∃ vv,vv=V P3 P2:=⟨_,rfl⟩;have rv:wr.cell? ⟨Y.row P3,P2,none⟩=some (.int .i64 vv):=by rw [hvv];exact (HH.out.ext hEwn).v P3 P2 hpm3 hpm2
       have ry:=Ext.keep hEwn (HH.out.wy P3 hpm3);have r6n:=Ext.keep (Ext.trans hEmm hEn) r6l;have hc3n:=Ext.keep hEn hcz2;have HSN:=Zh (show (L.take (n+1)).any (fun e=>decide (0 < V P3 (pl j us e.2)))=(sb || decide (0 < vv)) by
        rw [take_snoc' he,List.any_append,← hsb.out,hvv,hP2];simp)
       clear hz he hue hpq2 hP2 hvv;cases sb with
       | true=>
        have HS2:=Zh (HSN.out.trans (Bool.true_or _));clear HSN;go_wp2_with fail;go_quiet (fail)
        go_wp2;go_roundw
        case rel=>exact ⟨n+1,by go_num,Zo,true,rfl,Zh HS2.out.symm,Ext.trans hEn (Ext.drewN (Ext.refl wr) nq)⟩
        case measure=>exact mq29
       | false=>
        have HS2:=Zh (HSN.out.trans (Bool.false_or _));clear HSN;by_cases hvp:0 < vv
        .have hdv:decide (0 < vv)=true:=by simpa using hvp
         rw [hdv] at HS2;clear hvp;go_wp2_with fail;go_quiet (fail)
         go_wp2;go_roundw
         case rel=>exact ⟨n+1,by go_num,Zo,true,rfl,Zh HS2.out.symm,Ext.trans hEn (Ext.drewN (Ext.refl wr) nq)⟩
         case measure=>exact mq29
        .have hdv:decide (0 < vv)=false:=by simpa using hvp
         rw [hdv] at HS2;clear hvp;go_wp2_with fail;go_quiet (fail)
         go_wp2;go_roundw
         case rel=>exact ⟨n+1,by go_num,Zo,false,rfl,Zh HS2.out.symm,Ext.trans hEn (Ext.drewN (Ext.refl wr) nq)⟩
         case measure=>exact mq29
      .have HSB:=Zh (show sb=anyG W (L.map (·.1)) b by
        rw [hsb.out,List.take_of_length_le (by rw [HLL.out];omega)];exact HANY.out)
       cases sb with
       | true=>
        have HN:=Zh (show ∀ (p:Nat) (e:Tm×Nat),p < m+1→M[p]?=some e→anyG W (L.map (·.1)) e.1=true from fun p e hp he=>by
         rcases Nat.lt_or_ge p m with h | h
         .exact hall.out p e h he
         .obtain rfl:p=m:=by omega
          rw [HME.out] at he;cases he;exact HSB.out.symm)
        go_wp2;go_roundw
        case rel=>exact ⟨m+1,by go_num,Zo,HN,Ext.trans hEmm hEn⟩
        case measure=>exact mq29
       | false=>
        have HR:=Zh (HB0.out.symm.trans (show bagG W us ss=false by
         unfold bagG;rw [HD.out];rw [show allG W (L.map (·.1)) (M.map (·.1))=false from by
          unfold allG;rw [List.all_eq_false];exact ⟨b,List.mem_map.2 ⟨(b,q3),List.mem_of_getElem? HME.out,rfl⟩,by rw [← HSB.out];decide⟩]
         rfl))
        go_wp2;go_ret;exact ⟨ret_bool HR.out.symm,hEwn⟩
    .have HR:=Zh (HB0.out.symm.trans (show bagG W us ss=decide (0 < n2) by
      unfold bagG;rw [HD.out];rw [show allG W (L.map (·.1)) (M.map (·.1))=true from by
       unfold allG;rw [List.all_eq_true];intro b hb;obtain ⟨e,he,rfl⟩:=List.mem_map.1 hb;obtain ⟨p,hp,e2⟩:=List.mem_iff_getElem.1 he;exact hall.out p e (by rw [HML.out] at hp;omega) (by rw [List.getElem?_eq_getElem hp,e2])]
      rw [Bool.true_and,List.length_map,HLL.out]))
     go_wp2;go_ret;exact ⟨ret_bool HR.out.symm,Ext.trans hEl hEm⟩

