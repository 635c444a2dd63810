/- -/
import Derived.Test.YtiblbnkpjmmjaaaGreatQ21
set_option maxRecDepth 100000
set_option maxHeartbeats 16000000
set_option linter.all false
namespace Go.Proofs.YtiblbnkpjmmjaaaGreat
open Go.RowKit
structure SC where
 ab:Nat
 ao:Nat
 n:Nat
 c:Nat
 rb:Nat
 ro:Nat
 rc:Nat
 sb:Nat
 so:Nat
 k:Nat
 l:Nat
 tb:Nat
 tq:Nat
 m:Nat
 d:Nat
 g:Nat
 pa:Nat
 pc:Nat
 qa:Nat
 qc:Nat
 wb:Nat
 wc:Nat
 row:Nat→Nat
 ar:List Int
 rk:List Int
 s:List Int
 t:List Int
structure SC.P (Y:SC):Prop where
 sig:SigP Y.ar
 tt:TermP Y.ar Y.t
 ts:TermP Y.ar Y.s
 rl:Y.rk.length=Y.ar.length
 tc:Y.m≤Y.d∧Y.d≤9223372036854775807
 sc:Y.k≤Y.l∧Y.l≤9223372036854775807
def ArgsIn (w:World) (ar t:List Int) (pa:Nat) (row:Nat→Nat) (k:Nat):Prop:=∀ i,i < t.length→∃ (A:Option Addr) (c:Nat),w.cell? ⟨pa,i,none⟩=some (.slice A (subT ar t i).as.length c)∧RI w A (subT ar t i).as.length (starts (i+1) (subT ar t i).as)∧∀ b o s,A=some ⟨b,o,s⟩→∀ r,r < k→b≠row r
structure SC.H (Y:SC) (w:World) (V:Nat→Nat→Int):Prop where
 a:RI w (some ⟨Y.ab,Y.ao,none⟩) Y.n Y.ar
 r:RI w (some ⟨Y.rb,Y.ro,none⟩) Y.n Y.rk
 s:RI w (some ⟨Y.sb,Y.so,none⟩) Y.k Y.s
 t:RI w (some ⟨Y.tb,Y.tq,none⟩) Y.m Y.t
 c0:w.cell? ⟨Y.g,0,none⟩=some (.slice (some ⟨Y.ab,Y.ao,none⟩) Y.n Y.c)
 c1:w.cell? ⟨Y.g,1,none⟩=some (.slice (some ⟨Y.rb,Y.ro,none⟩) Y.n Y.rc)
 c2:w.cell? ⟨Y.g,2,none⟩=some (.slice (some ⟨Y.sb,Y.so,none⟩) Y.k Y.l)
 c3:w.cell? ⟨Y.g,3,none⟩=some (.slice (some ⟨Y.tb,Y.tq,none⟩) Y.m Y.d)
 c4:w.cell? ⟨Y.g,4,none⟩=some (.slice (some ⟨Y.pa,0,none⟩) Y.k Y.pc)
 c5:w.cell? ⟨Y.g,5,none⟩=some (.slice (some ⟨Y.qa,0,none⟩) Y.m Y.qc)
 c6:w.cell? ⟨Y.g,6,none⟩=some (.slice (some ⟨Y.wb,0,none⟩) Y.k Y.wc)
 sa:ArgsIn w Y.ar Y.s Y.pa Y.row Y.k
 ta:ArgsIn w Y.ar Y.t Y.qa Y.row Y.k
 wy:∀ i,i < Y.k→w.cell? ⟨Y.wb,i,none⟩=some (.slice (some ⟨Y.row i,0,none⟩) Y.m Y.m)
 v:∀ i j,i < Y.k→j < Y.m→w.cell? ⟨Y.row i,j,none⟩=some (.int .i64 (V i j))
 fr:∀ i j,i < Y.k→w.frozen? ⟨Y.row i,j,none⟩=false
 lt:∀ i,i < Y.k→Y.row i < w.heap.size
 one:∀ i j,i < Y.k→j < Y.k→Y.row i=Y.row j→i=j
 far:∀ i,i < Y.k→Y.row i≠Y.ab∧Y.row i≠Y.rb∧Y.row i≠Y.sb∧Y.row i≠Y.tb∧Y.row i≠Y.g∧Y.row i≠Y.pa∧Y.row i≠Y.qa∧Y.row i≠Y.wb
theorem ArgsIn.ext {w w':World} {ar t:List Int} {pa k:Nat} {row:Nat→Nat} (h:ArgsIn w ar t pa row k) (e:Ext w w'):ArgsIn w' ar t pa row k:=fun i hi=>by
 obtain ⟨A,c,h1,h2,h3⟩:=h i hi;exact ⟨A,c,Ext.keep e h1,h2.ext e,h3⟩
theorem SC.H.ext {Y:SC} {w w':World} {V:Nat→Nat→Int} (h:Y.H w V) (e:Ext w w'):Y.H w' V where
 a:=h.a.ext e
 r:=h.r.ext e
 s:=h.s.ext e
 t:=h.t.ext e
 c0:=Ext.keep e h.c0
 c1:=Ext.keep e h.c1
 c2:=Ext.keep e h.c2
 c3:=Ext.keep e h.c3
 c4:=Ext.keep e h.c4
 c5:=Ext.keep e h.c5
 c6:=Ext.keep e h.c6
 sa:=h.sa.ext e
 ta:=h.ta.ext e
 wy:=fun i hi=>Ext.keep e (h.wy i hi)
 v:=fun i j hi hj=>Ext.keep e (h.v i j hi hj)
 fr:=fun i j hi=>(Below.frozen (p:=⟨Y.row i,j,none⟩) e (h.lt i hi)).trans (h.fr i j hi)
 lt:=fun i hi=>Nat.lt_of_lt_of_le (h.lt i hi) e.size
 one:=h.one
 far:=h.far
structure SC.At (Y:SC) (i j:Nat) (y:Int) (ss:List Tm) (x:Int) (us:List Tm):Prop where
 hi:i < Y.s.length
 hj:j < Y.t.length
 si:subT Y.ar Y.s i=.node y ss
 tj:subT Y.ar Y.t j=.node x us
theorem SC.At.ok {Y:SC} (hP:Y.P) {i j:Nat} {x y:Int} {us ss:List Tm} (h:Y.At i j y ss x us):(Tm.node y ss).Ok Y.ar∧(Tm.node x us).Ok Y.ar:=by
 have h1:=(subT_ok hP.ts h.hi).1;have h2:=(subT_ok hP.tt h.hj).1;rw [h.si] at h1;rw [h.tj] at h2;exact ⟨h1,h2⟩
theorem c_l13EndP {v0 v1:Value} {ar t:List Int} {p E:Nat} {w:World} (h0:RdSig w v0 ar) (h1:RdI w v1 t) (ht:TermP ar t) (hp:p < t.length) (hE:E=p+(subT ar t p).flat.length) :
 Calls Tryz.prog 107 #[v0,v1,.int .i64 (p:Int)] w fun e w'=>e=.returned (.int .i64 (E:Int))∧Ext w w':=by
 obtain ⟨h2,rest,h3⟩:=subT_ok ht hp;subst hE;exact c_l13End h0 h1 ht.1 h2 h3
theorem c_SameTerm2 {v0 v1:Value} {xs ys:List Int} {b:Bool} {w:World} (hb:(xs == ys)=b) (h0:RdI w v0 xs) (h1:RdI w v1 ys) :
 Calls Tryz.prog 85 #[v0,v1] w fun e w'=>e=.returned (.bool b)∧Ext w w':=by subst hb;exact c_SameTerm h0 h1
theorem c_l13Same {Y:SC} {i j:Nat} {V:Nat→Nat→Int} {w:World} {b:Bool} (hb:((subT Y.ar Y.s i).flat == (subT Y.ar Y.t j).flat)=b) (hP:Y.P) (h:Y.H w V) (hi:i < Y.s.length) (hj:j < Y.t.length) :
 Calls Tryz.prog 105 #[.pointer (some ⟨Y.g,0,none⟩),.int .i64 (i:Int),.int .i64 (j:Int)] w fun e w'=>e=.returned (.bool b)∧Ext w w':=by
 obtain ⟨h1,rest1,h2⟩:=subT_ok hP.ts hi;obtain ⟨h3,rest2,h4⟩:=subT_ok hP.tt hj;obtain ⟨E1,hE1⟩:∃ E1,E1=i+(subT Y.ar Y.s i).flat.length:=⟨_,rfl⟩;obtain ⟨E2,hE2⟩:∃ E2,E2=j+(subT Y.ar Y.t j).flat.length:=⟨_,rfl⟩;have p1:=flat_pos (subT Y.ar Y.s i);have p2:=flat_pos (subT Y.ar Y.t j);have l1:=drop_lt h2 p1;have l2:=drop_lt h4 p2;rw [h.s.len] at l1;rw [h.t.len] at l2;have q3:=hP.sc;have q4:=hP.tc;have q5:i < E1:=by omega
 have q6:j < E2:=by omega
 have HS1:=Zh (RI.sub h.s h2);have HS2:=Zh (RI.sub h.t h4);have HE1:=Zh hE1;have HE2:=Zh hE2;have HB:=Zh hb;have HP:=Zh hP;have HI:=Zh hi;have HJ:=Zh hj;have HA:=Zh h.a;have HS:=Zh h.s;have HT:=Zh h.t;have c0:=h.c0;have c2:=h.c2;have c3:=h.c3;have hd1:(i:Int)≤((E1:Nat):Int):=by omega
 have hd2:((E1:Nat):Int)≤(Y.l:Int):=by omega
 have hd3:(0:Int)≤(i:Int):=by omega
 have hd4:(j:Int)≤((E2:Nat):Int):=by omega
 have hd5:((E2:Nat):Int)≤(Y.d:Int):=by omega
 have hd6:(0:Int)≤(j:Int):=by omega
 have hn1:¬ Y.l=i:=by omega
 have hn2:¬ Y.d=j:=by omega
 clear h1 h2 h3 h4 h hP hi hj hE1 hE2 hb l1 l2 p1 p2;go_enter Tryz.func105,Tryz.ntmps105;go_wp2_with fail;refine wp_region_held_drew (S:=(fun w'=>Ext w w'∧w'.cell? ⟨Y.g,0,none⟩=some (.slice (some ⟨Y.ab,Y.ao,none⟩) Y.n Y.c)∧w'.cell? ⟨Y.g,2,none⟩=some (.slice (some ⟨Y.sb,Y.so,none⟩) Y.k Y.l)∧w'.cell? ⟨Y.g,3,none⟩=some (.slice (some ⟨Y.tb,Y.tq,none⟩) Y.m Y.d))) Zk ?_ (fun hH=>?_)
 .exact ⟨(Ext.refl w).drew,c0,c2,c3⟩
 refine s6Z0 0 (.pointer (some ⟨Y.g,0,none⟩)) 7 1 (.pointer (some ⟨Y.g,0,none⟩)) 8 2 (.pointer (some ⟨Y.g,2,none⟩)) 9 3 (.slice (some ⟨Y.sb,Y.so,none⟩) Y.k Y.l) 10 4 (.int .i64 (i:Int)) 11 5 (.pointer (some ⟨Y.g,0,none⟩)) 12 hH ?_;refine s6Z0 6 (.pointer (some ⟨Y.g,0,none⟩)) 13 7 (.pointer (some ⟨Y.g,0,none⟩)) 14 8 (.agg #[.slice (some ⟨Y.ab,Y.ao,none⟩) Y.n Y.c]) 15 9 (.pointer (some ⟨Y.g,0,none⟩)) 16 10 (.pointer (some ⟨Y.g,0,none⟩)) 17 11 (.pointer (some ⟨Y.g,2,none⟩)) 18 hH ?_;refine s6Z0 12 (.slice (some ⟨Y.sb,Y.so,none⟩) Y.k Y.l) 19 13 (.int .i64 (i:Int)) 20 16 (.pointer (some ⟨Y.g,0,none⟩)) 23 17 (.pointer (some ⟨Y.g,0,none⟩)) 24 18 (.pointer (some ⟨Y.g,3,none⟩)) 25 19 (.slice (some ⟨Y.tb,Y.tq,none⟩) Y.m Y.d) 26 hH ?_;refine s6Z0 20 (.int .i64 (j:Int)) 27 21 (.pointer (some ⟨Y.g,0,none⟩)) 28 22 (.pointer (some ⟨Y.g,0,none⟩)) 29 23 (.pointer (some ⟨Y.g,0,none⟩)) 30 24 (.agg #[.slice (some ⟨Y.ab,Y.ao,none⟩) Y.n Y.c]) 31 25 (.pointer (some ⟨Y.g,0,none⟩)) 32 hH ?_;refine s4Z0 26 (.pointer (some ⟨Y.g,0,none⟩)) 33 27 (.pointer (some ⟨Y.g,3,none⟩)) 34 28 (.slice (some ⟨Y.tb,Y.tq,none⟩) Y.m Y.d) 35 29 (.int .i64 (j:Int)) 36 hH ?_;refine Z4 14 fun K hK=>?_;go_wp2_with (go_at_call 107;(with_reducible refine ((c_l13EndP (RdSig.mk (RI.ext HA.out hH.1)) (RdI.mk (RI.ext HS.out hH.1)) HP.out.ts HI.out HE1.out)).mono ?_);rintro e w4 ⟨rfl,hE9⟩)
 refine hK.out _ _ ⟨Ext.trans hH.1 hE9,Ext.keep hE9 hH.2.1,Ext.keep hE9 hH.2.2.1,Ext.keep hE9 hH.2.2.2⟩ (fun hH9=>?_);clear hK hH;rename _=>hH;try simp only [Act.put,Zl]
 refine s1Z0 15 (.slice (some ⟨Y.sb,Y.so+i,none⟩) (E1 - i) (Y.l - i)) 22 hH ?_;refine Z4 30 fun K hK=>?_;go_wp2_with (go_at_call 107;(with_reducible refine ((c_l13EndP (RdSig.mk (RI.ext HA.out hH.1)) (RdI.mk (RI.ext HT.out hH.1)) HP.out.tt HJ.out HE2.out)).mono ?_);rintro e w5 ⟨rfl,hE9⟩)
 refine hK.out _ _ ⟨Ext.trans hH.1 hE9,Ext.keep hE9 hH.2.1,Ext.keep hE9 hH.2.2.1,Ext.keep hE9 hH.2.2.2⟩ (fun hH9=>?_);clear hK hH;rename _=>hH;try simp only [Act.put,Zl]
 refine s1Z0 31 (.slice (some ⟨Y.tb,Y.tq+j,none⟩) (E2 - j) (Y.d - j)) 38 hH ?_;refine Z4 32 fun K hK=>?_;go_wp2_with (go_at_call 85;(with_reducible refine ((c_SameTerm2 HB.out (RdI.mk (n:=E1 - i) (by rw [show E1 - i=(subT Y.ar Y.s i).flat.length by have:=HE1.out;omega];exact RI.ext HS1.out hH.1)) (RdI.mk (n:=E2 - j) (by rw [show E2 - j=(subT Y.ar Y.t j).flat.length by have:=HE2.out;omega];exact RI.ext HS2.out hH.1)))).mono ?_);rintro e w6 ⟨rfl,hE9⟩)
 refine hK.out _ _ ⟨Ext.trans hH.1 hE9,Ext.keep hE9 hH.2.1,Ext.keep hE9 hH.2.2.1,Ext.keep hE9 hH.2.2.2⟩ (fun hH9=>?_);clear hK hH;rename _=>hH;try simp only [Act.put,Zl]
 refine s1Z0 33 (.bool b) 6 hH ?_;refine wpAnyH_done Zk ?_ _;obtain ⟨hE,_,_,_⟩:=hH;go_wp2;go_ret;exact ⟨rfl,hE⟩

