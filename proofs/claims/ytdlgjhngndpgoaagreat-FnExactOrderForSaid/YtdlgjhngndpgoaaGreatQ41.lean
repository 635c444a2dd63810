/- -/
import Derived.Test.YtdlgjhngndpgoaaGreatQ40
import Derived.Laws.CopyOwn
set_option maxRecDepth 100000
set_option maxHeartbeats 16000000
set_option linter.all false
namespace Go.Proofs.YtdlgjhngndpgoaaGreat
open Go.RowKit
structure B3 (w:World) (q:Nat) (u v x:Value):Prop where
 c0:w.cell? ⟨q,0,none⟩=some u
 c1:w.cell? ⟨q,1,none⟩=some v
 c2:w.cell? ⟨q,2,none⟩=some x
 fr:∀ j,w.frozen? ⟨q,j,none⟩=false
section
variable {w w':World} {q:Nat} {u v x:Value}
theorem B3.lt (h:B3 w q u v x):q < w.heap.size:=World.block_lt_of_cell? w _ h.c0
theorem B3.ext (h:B3 w q u v x) (k:Ext w w'):B3 w' q u v x:=⟨Ext.keep k h.c0,Ext.keep k h.c1,Ext.keep k h.c2,fun j=>(Below.frozen (p:=⟨q,j,none⟩) k h.lt).trans (h.fr j)⟩
theorem B3.new (W:World) (u v x:Value):∀ q,q=W.heap.size→B3 (W.alloc (.cells #[u,v,x] 35)) q u v x:=fun q e=>by
 subst e;exact ⟨by simp [go_sem],by simp [go_sem],by simp [go_sem],by intro j;simp [go_sem]⟩
theorem B3.far (h:B3 w q u v x) {p:Addr} (y:Value) (hp:q≠p.block):B3 (w.setCell p y) q u v x:=by
 refine ⟨?_,?_,?_,fun j=>by rw [World.frozen?_setCell];exact h.fr j⟩
 .rw [World.cell?_setCell_other _ _ _ _ (fun e=>hp (by have:=congrArg Addr.block e;first | exact this | exact this.symm))];exact h.c0
 .rw [World.cell?_setCell_other _ _ _ _ (fun e=>hp (by have:=congrArg Addr.block e;first | exact this | exact this.symm))];exact h.c1
 .rw [World.cell?_setCell_other _ _ _ _ (fun e=>hp (by have:=congrArg Addr.block e;first | exact this | exact this.symm))];exact h.c2
theorem B3.put2 (h:B3 w q u v x) (y:Value):B3 (w.setCell ⟨q,2,none⟩ y) q u v y:=by
 refine ⟨?_,?_,World.cell?_setCell_same _ _ _ h.c2,fun j=>by rw [World.frozen?_setCell];exact h.fr j⟩
 .rw [World.cell?_setCell_other _ _ _ _ (by simp)];exact h.c0
 .rw [World.cell?_setCell_other _ _ _ _ (by simp)];exact h.c1
end
theorem RI.setW {w:World} {A:Option Addr} {n:Nat} {xs:List Int} (h:RI w A n xs) {p:Addr} (v:Value) (hp:n=0∨∀ b o s,A=some ⟨b,o,s⟩→b≠p.block):RI (w.setCell p v) A n xs:=by
 refine ⟨h.1,fun hn=>?_⟩;obtain ⟨b,o,e,hc⟩:=h.2 hn;have hb:b≠p.block:=(hp.resolve_left Zo) b o none e;refine ⟨b,o,e,fun j x hx=>?_⟩;rw [World.cell?_setCell_other _ _ _ _ (fun e2=>hb (by have:=congrArg Addr.block e2;first | exact this | exact this.symm))];exact hc j x hx
def TR (s:Sy) (sym rk:List Int):Prop:=kboOrients s ⟨1,sym,rk⟩=true
noncomputable def rkO (s:Sy) (sym:List Int) (n:Nat):Option (List Int):=gsR (TR s sym) (muR (upI 0 n)+1) (upI 0 n)
def TW (s:Sy) (n:Nat) (sym:List Int):Prop:=(rkO s sym n).isSome=true
noncomputable def rkMeas (T:List Int→Prop) (o:Option (List Int)) (q:Nat) (mv:Value) (w:World):Nat:=match mv with
 | .bool true=>leastOf (fun k=>∃ A n c rk,w.cell? ⟨q,2,none⟩=some (.slice A n c)∧RI w A n rk∧OnG T o k rk)+1
 | _=>0
theorem rkMeas_t {T:List Int→Prop} {o:Option (List Int)} {q:Nat} {w:World}:rkMeas T o q (.bool true) w=leastOf (fun k=>∃ A n c rk,w.cell? ⟨q,2,none⟩=some (.slice A n c)∧RI w A n rk∧OnG T o k rk)+1:=rfl
theorem rkMeas_f {T:List Int→Prop} {o:Option (List Int)} {q:Nat} {w:World}:rkMeas T o q (.bool false) w=0:=rfl
def RkOut (B:Nat) (w':World) (SA:Option Addr) (sn sc:Nat) (o:Option (List Int)) (e:Ending):Prop:=match o with
 | none=>e=.returned (.tuple #[.agg #[.int .i64 0,.slice none 0 0,.slice none 0 0],.bool false])
 | some rk=>∃ RA rn rc,e=.returned (.tuple #[.agg #[.int .i64 1,.slice SA sn sc,.slice RA rn rc],.bool true])∧RI w' RA rn rk∧(rn=0∨∀ b o s,RA=some ⟨b,o,s⟩→B≤b)
theorem c_sKboOrP {v0 v1:Value} {s:Sy} {W:Wt} {b:Bool} {w:World} (hb:kboOrients s W=b) (h0:RdSyC w v0 s) (h1:RdWt w v1 W) :
 Calls Tryz.prog 13 #[v0,v1] w fun e w'=>e=.returned (.bool b)∧Ext w w':=by subst hb;exact c_sKboOrients h0 h1
theorem c_l16Ranked {v0:Value} {s:Sy} {SA:Option Addr} {sn sc:Nat} {sym:List Int} {o:Option (List Int)} {w:World} (ho:rkO s sym sn=o) (h0:RdSyC w v0 s) (h1:RI w SA sn sym) (hn8:sn≤8) :
 Calls Tryz.prog 81 #[v0,.slice SA sn sc] w fun e w'=>RkOut w.heap.size w' SA sn sc o e∧Ext w w':=by
 obtain ⟨A0,n0,c0,B0,m0,d0,rfl,ha,hb⟩:=h0;have HA:=Zh ha;have HB:=Zh hb;have HS:=Zh h1;have HW0:=Zh (show OnG (TR s sym) o (muR (upI 0 sn)+1) (upI 0 sn) from OnG.start (upI_ok hn8) ho);clear ha hb h1 ho;go_enter Tryz.func81,Tryz.ntmps81;go_wp2_with fail;obtain ⟨wb,hwb⟩:∃ wb,wb=(w.alloc (.cells #[.slice A0 n0 c0,.slice B0 m0 d0] 32)).alloc (.cells #[.int .i64 0,.slice none 0 0,.slice none 0 0] 35):=⟨_,rfl⟩;have hb0:wb.cell? ⟨w.heap.size,0,none⟩=some (.slice A0 n0 c0):=by rw [hwb];simp [go_sem]
 have hb1:wb.cell? ⟨w.heap.size,1,none⟩=some (.slice B0 m0 d0):=by rw [hwb];simp [go_sem]
 have HZ:=Zh (show B3 wb (w.heap.size+1) (.int .i64 0) (.slice none 0 0) (.slice none 0 0) by rw [hwb];exact B3.new _ _ _ _ _ (by simp [go_sem]));have HEwb:=Zh (show Ext w wb by rw [hwb];exact extX);have hbs:wb.heap.size=w.heap.size+2:=by rw [hwb];simp [go_sem]
 have HBS:=Zh hbs;rw [← hwb];clear hwb hbs
 (with_reducible refine (c_l16First (n:=sn) Zo).mono ?_);rintro e w2 ⟨RA,rn,rc,rfl,hR2,hE2⟩;have hcp2:=hR2.cap;have hbd2:=hR2.bd;have HR2:=Zh hR2.ri;have hs2:=hE2.size;obtain ⟨w3,hw3⟩:∃ w3,w3=w2.alloc (.cells #[.int .i64 1,.slice SA sn sc,.slice RA rn rc] 35):=⟨_,rfl⟩;have hE23:Ext w2 w3:=by rw [hw3];exact extX
 have HQ3:=Zh (show B3 w3 w2.heap.size (.int .i64 1) (.slice SA sn sc) (.slice RA rn rc) by rw [hw3];exact B3.new _ _ _ _ _ rfl);have HE2:=Zh hE2;have HR3:=Zh (RI.ext HR2.out hE23);have HF3:=Zh (show rn=0∨∀ b o s,RA=some ⟨b,o,s⟩→wb.heap.size≤b∧b≠w2.heap.size from .inr fun b o s e=>by have:=hbd2 b o s e;omega);have HE23:=Zh hE23;clear hR2 hbd2 hE2 hE23;go_wp2_with fail;rw [← hw3];clear hw3;obtain ⟨q,hq⟩:∃ q,q=w2.heap.size:=⟨_,rfl⟩;rw [← hq] at HQ3 HF3 ⊢;have HQQ:=Zh hq;clear hq;go_loopw [7] (fun mv wr=>∃ more:Bool,mv=.bool more∧Hid (B3 wr (w.heap.size+1) (.int .i64 0) (.slice none 0 0) (.slice none 0 0))∧Hid (Ext w2 wr)∧Hid ((more=true→∃ k RA rn rc rk,B3 wr q (.int .i64 1) (.slice SA sn sc) (.slice RA rn rc)∧RI wr RA rn rk∧(rn≤rc∧rc≤9223372036854775807)∧(rn=0∨∀ b o s,RA=some ⟨b,o,s⟩→wb.heap.size≤b∧b≠q)∧OnG (TR s sym) o k rk)∧(more=false→o=none))) (fun mv wr=>rkMeas (TR s sym) o q mv wr)
 case atStart=>exact ⟨true,rfl,Zh ((HZ.out.ext HE2.out).ext HE23.out),HE23,Zh ⟨fun _=>⟨_,RA,rn,rc,_,HQ3.out,HR3.out,hcp2,HF3.out,HW0.out⟩,fun h=>by cases h⟩⟩
 case round=>
  obtain ⟨more,rfl,hZ,hEr,hI⟩:=hrel;have hErb:=Zh (Ext.trans HE2.out hEr.out);have HErw:=Zh (Ext.trans HEwb.out hErb.out);have k0:=Ext.keep hErb.out hb0;have k1:=Ext.keep hErb.out hb1;have z0:=hZ.out.c0;have z1:=hZ.out.c1;have z2:=hZ.out.c2;have zf:=hZ.out.fr;cases more with
  | false=>
   have HN:=Zh (hI.out.2 rfl);go_wp2_with fail;refine bodyPost_ret (v:=.tuple #[.agg #[.int .i64 0,.slice none 0 0,.slice none 0 0],.bool false]) (by simp [results,Tryz.results81,go_sem,z0,z1,z2,zf]) rfl ?_;rw [HN.out];exact ⟨rfl,((HErw.out.set (by simp) _).set (by simp) _).set (by simp) _⟩
  | true=>
   have hex:∃ k,∃ A n c rk,wr.cell? ⟨q,2,none⟩=some (.slice A n c)∧RI wr A n rk∧OnG (TR s sym) o k rk:=by
    obtain ⟨k,RA,rn,rc,rk,h1,h2,_,_,h3⟩:=hI.out.1 rfl;exact ⟨k,RA,rn,rc,rk,h1.c2,h2,h3⟩
   obtain ⟨⟨A',n',c',rk,e',hX,hW⟩,_⟩:=leastOf_spec hex;obtain ⟨_,RA,rn,rc,_,hQ,_,hcp,hF,_⟩:=hI.out.1 rfl;rw [hQ.c2] at e';have e1:RA=A':=by cases e';rfl
   have e2:rn=n':=by cases e';rfl
   have e3:rc=c':=by cases e';rfl
   subst e1;subst e2;subst e3;clear e';have HX:=Zh hX;have HW:=Zh hW;have HF:=Zh hF;have HQ:=Zh hQ;have q0:=hQ.c0;have q1:=hQ.c1;have q2:=hQ.c2;obtain ⟨g,hg⟩:∃ g,kboOrients s ⟨1,sym,rk⟩=g:=⟨_,rfl⟩;have HG:=Zh hg;clear hX hW hex hQ hF hg;go_wp2_with fail
   (with_reducible refine (c_sKboOrP HG.out (RdSyK.mk (RI.ext HA.out HErw.out) (RR.ext HB.out HErw.out)) (RdWt.mk (t:=⟨1,sym,rk⟩) (RI.ext HS.out HErw.out) HX.out)).mono ?_);rintro e w5 ⟨rfl,hE5⟩;have HE5:=Zh (Ext.trans hEr.out hE5);have HE5w:=Zh (Ext.trans HErw.out hE5);have HX5:=Zh (RI.ext HX.out hE5);have HQ5:=Zh (HQ.out.ext hE5);have HZ5:=Zh (hZ.out.ext hE5);have y0:=HQ5.out.c0;have y1:=HQ5.out.c1;have y2:=HQ5.out.c2;have yf:=HQ5.out.fr;have x0:=HZ5.out.c0;have x1:=HZ5.out.c1;have x2:=HZ5.out.c2;have xf:=HZ5.out.fr;clear k0 k1 z0 z1 z2 zf q0 q1 q2;cases g with
   | true=>
    have ho:o=some rk:=HW.out.yes HG.out;go_wp2_with fail;refine bodyPost_ret (v:=.tuple #[.agg #[.int .i64 1,.slice SA sn sc,.slice RA rn rc],.bool true]) (by simp [results,Tryz.results81,go_sem,x0,x1,x2,xf]) rfl ?_;rw [ho];have hfar:rn=0∨∀ b o s,RA=some ⟨b,o,s⟩→b≠w.heap.size+1:=HF.out.imp id fun h b o s e=>by have:=(h b o s e).1;have:=HBS.out;omega
    exact ⟨⟨RA,rn,rc,rfl,((HX5.out.setW _ hfar).setW _ hfar).setW _ hfar,HF.out.imp id fun h b o s e=>by have:=(h b o s e).1;have:=HBS.out;omega⟩,((HE5w.out.set (by simp) _).set (by simp) _).set (by simp) _⟩
   | false=>
    have hgo:¬ TR s sym rk:=fun h=>by have h2:kboOrients s ⟨1,sym,rk⟩=true:=h;rw [HG.out] at h2;cases h2
    obtain ⟨nb,hnb⟩:∃ b,nextB rk=b:=⟨_,rfl⟩;have HNB:=Zh hnb;clear hnb;go_wp2_with fail
    (with_reducible refine (c_sNextRank HX5.out hcp).mono ?_);rintro e w6 ⟨NA,nn,nc,rfl,hncp,hnfar,hNR,hE6⟩;rw [HNB.out];have HQ6:=Zh (HQ5.out.ext hE6);have HZ6:=Zh (HZ5.out.ext hE6);have HE6:=Zh (Ext.trans HE5.out hE6);have hq5:=HQ5.out.lt;have hs5:=HE5.out.size;have HNR:=Zh hNR;have hqw:w2.heap.size≤q:=by rw [HQQ.out];exact Nat.le_refl _
    have HNF:=Zh (show nn=0∨∀ b o s,NA=some ⟨b,o,s⟩→wb.heap.size≤b∧b≠q from hnfar.imp id fun h b o s e=>by have:=h b o s e;omega);have v0:=HQ6.out.c0;have v2:=HQ6.out.c2;have vf:=HQ6.out.fr;clear y0 y1 y2 yf x0 x1 x2 xf hNR hnfar;go_wp2_with fail;have HQ7:=Zh (HQ6.out.put2 (.slice NA nn nc));have HZ7:=Zh (HZ6.out.far (p:=⟨q,2,none⟩) (.slice NA nn nc) (by have:=HBS.out;have:=HQQ.out;show w.heap.size+1≠q;omega));have HE7:=Zh (HE6.out.set (show w2.heap.size≤(⟨q,2,none⟩:Addr).block from hqw) (.slice NA nn nc));have HR7:=Zh (HNR.out.setW (p:=⟨q,2,none⟩) (.slice NA nn nc) (HNF.out.imp id fun h b o s e=>(h b o s e).2));have HNX:=Zh (show (nb=true→∃ m,m < leastOf (fun k=>∃ A n c rk,wr.cell? ⟨q,2,none⟩=some (.slice A n c)∧RI wr A n rk∧OnG (TR s sym) o k rk)∧OnG (TR s sym) o m (nextV rk))∧(nb=false→o=none) from ⟨fun e=>by rw [e] at HNB;exact HW.out.next hgo HNB.out,fun e=>by rw [e] at HNB;exact HW.out.stop hgo HNB.out⟩);go_roundw
    case rel=>exact ⟨nb,rfl,HZ7,HE7,Zh ⟨fun e=>by
     obtain ⟨m,_,hm⟩:=HNX.out.1 e;exact ⟨m,NA,nn,nc,_,HQ7.out,HR7.out,hncp,HNF.out,hm⟩,HNX.out.2⟩⟩
    case measure=>
     rw [rkMeas_t];cases nb with
     | false=>rw [rkMeas_f];omega
     | true=>
      rw [rkMeas_t];obtain ⟨m,hm1',hm2⟩:=HNX.out.1 rfl;have:=leastOf_le (R:=fun k=>∃ A n c rk,(w6.setCell ⟨q,2,none⟩ (.slice NA nn nc)).cell? ⟨q,2,none⟩=some (.slice A n c)∧RI (w6.setCell ⟨q,2,none⟩ (.slice NA nn nc)) A n rk∧OnG (TR s sym) o k rk) ⟨NA,nn,nc,_,HQ7.out.c2,HR7.out,hm2⟩;omega
theorem c_Mul64 {n:Nat} {w:World} (hn:n≤40):Calls Tryz.prog 122 #[.int .u64 1,.int .u64 (n:Int)] w fun e w'=>e=.returned (.tuple #[.int .u64 0,.int .u64 (n:Int)])∧w=w':=by
 go_enter Tryz.func122,Tryz.ntmps122;go_wp2;refine bodyPost_ret (v:=.tuple #[.int .u64 0,.int .u64 (n:Int)]) ?_ rfl ⟨rfl,rfl⟩;rcases (show n=0∨n=1∨n=2∨n=3∨n=4∨n=5∨n=6∨n=7∨n=8∨n=9∨n=10∨n=11∨n=12∨n=13∨n=14∨n=15∨n=16∨n=17∨n=18∨n=19∨n=20∨n=21∨n=22∨n=23∨n=24∨n=25∨n=26∨n=27∨n=28∨n=29∨n=30∨n=31∨n=32∨n=33∨n=34∨n=35∨n=36∨n=37∨n=38∨n=39∨n=40 from by omega) with rfl | rfl | rfl | rfl | rfl | rfl | rfl | rfl | rfl | rfl | rfl | rfl | rfl | rfl | rfl | rfl | rfl | rfl | rfl | rfl | rfl | rfl | rfl | rfl | rfl | rfl | rfl | rfl | rfl | rfl | rfl | rfl | rfl | rfl | rfl | rfl | rfl | rfl | rfl | rfl | rfl
 all_goals (simp [results,Tryz.results122,go_sem];try decide)
theorem c_Mul {n:Nat} {w:World} (hn:n≤40):Calls Tryz.prog 93 #[.int .u64 1,.int .u64 (n:Int)] w fun e w'=>e=.returned (.tuple #[.int .u64 0,.int .u64 (n:Int)])∧w=w':=by
 go_enter Tryz.func93,Tryz.ntmps93;go_wp2_with fail
 (with_reducible refine (c_Mul64 hn).mono ?_);rintro e w2 ⟨rfl,rfl⟩;go_wp2_with fail;exact bodyPost_ret (v:=.tuple #[.int .u64 0,.int .u64 (n:Int)]) (by simp [results,Tryz.results93,go_sem]) rfl ⟨rfl,rfl⟩
def fillR (x:Int) (p n:Nat):List Value:=(List.replicate p x++List.replicate (n - p) 0).map (Value.int .i64)
theorem fill_len (x:Int) {p n:Nat} (h:p≤n):(fillR x p n).length=n:=by simp [fillR];omega
theorem fill_get {x:Int} {p n j:Nat} (h:j < p):(fillR x p n)[j]?=some (.int .i64 x):=by
 unfold fillR;rw [List.getElem?_map,List.getElem?_append_left (by simpa using h),List.getElem?_replicate,if_pos h];rfl
theorem fill_splice {x:Int} {p k n:Nat} (h:p+k≤n):splice (fillR x p n) p ((List.replicate k x).map (Value.int .i64))=fillR x (p+k) n:=by
 unfold splice fillR;rw [← List.map_take,← List.map_drop,← List.map_append,← List.map_append]
 congr 1
 rw [List.take_append_of_le_length (by simp),List.take_of_length_le (by simp),List.length_map,List.length_replicate,List.drop_append,List.drop_of_length_le (by simp),List.nil_append,List.drop_replicate,List.length_replicate,← List.append_assoc,List.replicate_append_replicate]
 congr 2
 omega
theorem fill_ints {w:World} {g n B:Nat} {x:Int} (hg:w.heap[g]?=some (.cells (fillR x n n).toArray 2 (0,0))) (hB:B≤g) (hn:n≤40):OwI w B (some ⟨g,0,none⟩) n n (List.replicate n x):=by
 refine ⟨Zo,by simp,.inr ⟨g,n,(fillR x n n).toArray,rfl,hB,hg,Nat.le_refl _,by unfold maxLen;omega,by simp [fillR],?_⟩⟩;rw [List.toList_toArray,List.take_of_length_le (by simp [fillR])];simp [fillR]
theorem fill_pos {w:World} {x:Int} {p n k g:Nat} {ds:List Value} (hds:ds=(List.replicate k x).map (Value.int .i64)) (hk:k≤p) (hg:w.heap[g]?=some (.cells (fillR x p n).toArray 2 (0,0))) :
 0 < ds.length→(some ⟨g,0+p,none⟩:Option Addr)=some ⟨g,0+p,none⟩∧∃ ad,(some ⟨g,0,none⟩:Option Addr)=some ad∧∀ j v,ds[j]?=some v→w.cell? (ad.add j)=some v:=fun _=>⟨rfl,_,rfl,fun j v hj=>by
 rw [hds,List.getElem?_map,List.getElem?_replicate] at hj;split at hj
 .rename_i hjl
  simp at hj;subst hj;have h1:w.cell? ⟨g,j,none⟩=some (.int .i64 x):=by
   rw [cell_of_row w _ _ _ _ (0,0) hg,List.getElem?_toArray];exact fill_get Zo
  by_cases hj0:j=0
  .subst hj0;simpa [Addr.add] using h1
  .simpa [Addr.add,hj0] using h1
 .cases hj⟩
theorem fill_made {w:World} {g B n:Nat} {x:Int} (h:w.ownsRow B 2 1 (.slice (some ⟨g,0,none⟩) n n) n (madeCells #[Value.int .i64 0] n).toList):w.heap[g]?=some (.cells (fillR x 0 n).toArray 2 (0,0)):=by
 rcases h.2 with ⟨h2,_⟩ | ⟨g',cap,cur,hv,hg,hh,h1,h2,h3,h4⟩
 .cases h2
 .cases hv;rw [hh];have e:cur.toList=fillR x 0 n:=by
   rw [List.take_of_length_le (by simp [h3])] at h4;rw [h4,madeInts];simp [fillR]
  rw [← e]
theorem mq41 {p:Prop} (h:p:=by simp only [intOf];omega):p:=h
theorem c_Repeat {b o c n:Nat} {x:Int} {w:World} (h0:w.cell? ⟨b,o,none⟩=some (.int .i64 x)) (hc:1≤c∧c≤9223372036854775807) (hn:n≤40) :
 Calls Tryz.prog 60 #[.slice (some ⟨b,o,none⟩) 1 c,.int .i64 (n:Int)] w (NewI w (List.replicate n x)):=by
 have hn0:¬ (n:Int) < 0:=by omega
 have hw1:IntKind.u64.wrap (n:Int)=(n:Int):=by unfold IntKind.wrap;simp [IntKind.bits];omega
 have hw2:IntKind.i64.wrap (n:Int)=(n:Int):=IntWalk.i64_in _ Zo;have hmx:¬ ((n:Int) > 9223372036854775807):=by omega
 obtain ⟨i0,hii,hiz,his,hib⟩:=info_parts int64_info;go_enter Tryz.func60,Tryz.ntmps60;go_wp2_with fail
 (with_reducible refine (c_Mul hn).mono ?_);rintro e w2 ⟨rfl,rfl⟩;have hsz:(Tryz.prog.info? 2).map (·.size)=some 1:=by rw [hii];simp [his]
 go_wp2_with (at_make;refine wpList_make_full _ rfl _ _ 27 rfl w.heap.size 2 i0 _ 1 Tryz.underlying27 hii hiz his _ _ _ _ n rfl rfl rfl rfl (by rw [hib];omega) (by simp only [maxLen];omega) (Nat.le_refl _) ?_)
 intro w3 hown0 hg3;have hE3:Ext w w3:=Ext.grown (Ext.refl _) hg3 (fun k hk=>by cases hk);have HH:=Zh (fill_made (x:=x) hown0);have h30:=Ext.keep hE3 h0;obtain ⟨cs,hcs⟩:∃ cs,cs=(List.replicate (min 1 n) x).map (Value.int .i64):=⟨_,rfl⟩;have hcl:cs.length=min 1 n:=by rw [hcs];simp
 have HCS:=Zh hcs;clear hown0 hg3 hcs;have hpos:0 < cs.length→(some ⟨w.heap.size,0,none⟩:Option Addr)=some ⟨w.heap.size,0,none⟩∧∃ ad,(some ⟨b,o,none⟩:Option Addr)=some ad∧∀ j v,cs[j]?=some v→w3.cell? (ad.add j)=some v:=fun _=>⟨rfl,_,rfl,fun j v hj=>by
  rw [HCS.out,List.getElem?_map,List.getElem?_replicate] at hj;split at hj
  .obtain rfl:j=0:=by omega
   simp at hj;subst hj;simpa [Addr.add] using h30
  .cases hj⟩
 have hone:∀ v∈cs,v.oneCell'=true:=fun v hv=>by
  rw [HCS.out] at hv;obtain ⟨y,_,rfl⟩:=List.mem_map.1 hv;rfl
 have hfit:0+cs.length≤(fillR x 0 n).length:=by rw [fill_len x (Nat.zero_le n),hcl];omega
 have HS3:=Zh (show splice (fillR x 0 n) 0 cs=fillR x (min 1 n) n by rw [HCS.out,fill_splice Zo,Nat.zero_add]);go_wp2_with (refine wpList_copy_splice rfl (.tmp 31) (.tmp 32) 27 27 rfl 2 Tryz.underlying27 hsz _ _ _ _ _ _ rfl rfl w.heap.size 0 (fillR x 0 n) 2 HH.out cs hcl hpos hfit hone w.heap.size w hE3 (Nat.le_refl _) ?_)
 intro w4 HG4 hE4;rw [HS3.out] at HG4;clear hpos hone hfit;go_wp2;go_loopw [8] (fun i wr=>∃ p:Nat,i=.int .i64 p∧p≤n∧(p=0→n=0)∧Hid (wr.heap[w.heap.size]?=some (.cells (fillR x p n).toArray 2 (0,0)))∧Ext w wr) (fun i _=>n - (intOf i).toNat)
 case atStart=>exact ⟨min 1 n,rfl,Zo,Zo,HG4,hE4⟩
 case round=>
  obtain ⟨p,rfl,hp,hp0,hRow,hE⟩:=hrel;by_cases hlt:p < n
  .have hpi:(p:Int) < (n:Int):=by omega
   have hp0i:(0:Int)≤(p:Int):=by omega
   obtain ⟨ds,hds⟩:∃ ds,ds=(List.replicate (min p (n - p)) x).map (Value.int .i64):=⟨_,rfl⟩;have hdl:ds.length=min p (n - p):=by rw [hds];simp
   have HDS:=Zh hds;clear hds;have hone:∀ v∈ds,v.oneCell'=true:=fun v hv=>by
    rw [HDS.out] at hv;obtain ⟨y,_,rfl⟩:=List.mem_map.1 hv;rfl
   have hfit:p+ds.length≤(fillR x p n).length:=by rw [fill_len x hp,hdl];omega
   have HS3:=Zh (show splice (fillR x p n) p ds=fillR x (p+min p (n - p)) n by rw [HDS.out,fill_splice Zo]);have hpn:¬ n=p:=by omega
   have hwp:IntKind.i64.wrap ((p:Int)+((min p (n - p):Nat):Int))=(p:Int)+((min p (n - p):Nat):Int):=IntWalk.i64_in _ Zo;have hgi:goInt ds.length=.int .i64 ((min p (n - p):Nat):Int):=by rw [hdl];rfl
   go_wp2_with fail;refine wp_region_held_drew (S:=(fun w'=>Ext w w')) Zk ?_ (fun hH=>?_)
   .exact hE.drew
   refine s6Z0 0 (.int .i64 (p:Int)) 38 1 (.slice (some ⟨w.heap.size,0,none⟩) n n) 39 2 (.int .i64 (p:Int)) 40 3 (.slice (some ⟨w.heap.size,0+p,none⟩) (n - p) (n - p)) 41 4 (.slice (some ⟨w.heap.size,0,none⟩) n n) 42 5 (.int .i64 (p:Int)) 43 hH ?_;refine s1Z0 6 (.slice (some ⟨w.heap.size,0,none⟩) p n) 44 hH ?_;refine wpAnyH_ready (rs:=[7]) Zk (by simp) (.cons rfl (fun K hK=>?_) .nil);refine step_copy_splice (o:=⟨some 45,_,_,_,_,_⟩) rfl (.tmp 41) (.tmp 44) 27 27 rfl 2 Tryz.underlying27 hsz _ _ _ _ _ _ rfl rfl w.heap.size (0+p) (fillR x p n) 2 hRow.out ds hdl (fill_pos HDS.out Zo (w:=wr.drew) hRow.out) (by rw [Nat.zero_add];exact hfit) hone w.heap.size w hE.drew (Nat.le_refl _) ?_;intro w5 HG5 hE9;refine hK.out _ _ hE9 (fun hH9=>?_);clear hK hH;rename _=>hH;try simp only [Act.put,Zl]
   refine s2Z0 8 (.int .i64 ((p+min p (n - p):Nat):Int)) 46 9 (.int .i64 ((p+min p (n - p):Nat):Int)) 8 hH ?_;refine wpAnyH_done Zk ?_ _;rw [Nat.zero_add,HS3.out] at HG5;go_wp2;go_roundw
   case rel=>exact ⟨p+min p (n - p),rfl,Zo,Zo,HG5,hH⟩
   case measure=>exact mq41
  .obtain rfl:p=n:=by omega
   go_wp2;go_ret;exact ⟨_,_,_,rfl,fill_ints hRow.out (Nat.le_refl _) hn,hE⟩
theorem c_repeated {n:Nat} {x:Int} {w:World} (hn:n≤40):Calls Tryz.prog 26 #[.int .i64 x,.int .i64 (n:Int)] w (NewI w (List.replicate n x)):=by
 go_enter Tryz.func26,Tryz.ntmps26;go_wp2_with fail
 (with_reducible refine (c_Repeat (b:=w.heap.size) (o:=0) (c:=1) (x:=x) (by simp [go_sem]) Zo hn).mono ?_);rintro e w2 ⟨A,n2,c2,rfl,hO,hE⟩;have HO:=Zh hO;clear hO;go_wp2_with fail;go_ret;exact ⟨A,n2,c2,rfl,HO.out.lower (by simp [go_sem]),extX⟩

