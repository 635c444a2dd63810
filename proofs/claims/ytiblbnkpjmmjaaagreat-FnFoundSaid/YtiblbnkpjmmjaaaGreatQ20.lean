/- -/
import Derived.Test.YtiblbnkpjmmjaaaGreatQ19
set_option maxRecDepth 100000
set_option maxHeartbeats 16000000
set_option linter.all false
namespace Go.Proofs.YtiblbnkpjmmjaaaGreat
open Go.RowKit
structure LC where
 ab:Nat
 ao:Nat
 n:Nat
 c:Nat
 rb:Nat
 ro:Nat
 rc:Nat
 tb:Nat
 tq:Nat
 m:Nat
 d:Nat
 sb:Nat
 so:Nat
 k:Nat
 l:Nat
 g:Nat
 ar:List Int
 rk:List Int
 t:List Int
 s:List Int
 lex:Bool
noncomputable def LC.W (X:LC) (i j:Nat):Nat:=lpoW (rkF X.rk) X.lex (subT X.ar X.t i) (subT X.ar X.s j)
def LC.by_ (X:LC):Value:=.iface (if X.lex=true then 95 else 96) (.agg #[])
structure LC.P (X:LC):Prop where
 sig:SigP X.ar
 tt:TermP X.ar X.t
 ts:TermP X.ar X.s
 rl:X.rk.length=X.ar.length
 tc:X.m≤X.d∧X.d≤9223372036854775807
 sc:X.k≤X.l∧X.l≤9223372036854775807
structure LC.H (X:LC) (w:World):Prop where
 a:RI w (some ⟨X.ab,X.ao,none⟩) X.n X.ar
 r:RI w (some ⟨X.rb,X.ro,none⟩) X.n X.rk
 t:RI w (some ⟨X.tb,X.tq,none⟩) X.m X.t
 s:RI w (some ⟨X.sb,X.so,none⟩) X.k X.s
 na:X.ab≠X.g
 nr:X.rb≠X.g
 nt:X.tb≠X.g
 ns:X.sb≠X.g
 c0:w.cell? ⟨X.g,0,none⟩=some (.slice (some ⟨X.ab,X.ao,none⟩) X.n X.c)
 c1:w.cell? ⟨X.g,1,none⟩=some (.slice (some ⟨X.rb,X.ro,none⟩) X.n X.rc)
 c2:w.cell? ⟨X.g,2,none⟩=some X.by_
 c3:w.cell? ⟨X.g,3,none⟩=some (.slice (some ⟨X.tb,X.tq,none⟩) X.m X.d)
 c4:w.cell? ⟨X.g,4,none⟩=some (.slice (some ⟨X.sb,X.so,none⟩) X.k X.l)
 cw:∀ i j,i < 60→j < 60→∃ z:Nat,w.cell? ⟨X.g,5+i * 60+j,none⟩=some (.int .i8 z)∧(z=0∨z=1+X.W i j)
 fr:∀ o,w.frozen? ⟨X.g,o,none⟩=false
theorem LC.W_le (X:LC) (i j:Nat):X.W i j≤3:=lpoW_le _ _ _ _
theorem RI.onlyS {w w':World} {g b o n:Nat} {xs:List Int} (h:RI w (some ⟨b,o,none⟩) n xs) (k:Only w w' g) (hg:b≠g):RI w' (some ⟨b,o,none⟩) n xs:=
 h.only k fun b' o' s' e _=>by cases e;exact hg
theorem LC.H.lt {X:LC} {w:World} (h:X.H w):X.g < w.heap.size:=World.block_lt_of_cell? w _ h.c0
theorem LC.H.ext {X:LC} {w w':World} (h:X.H w) (k:Ext w w'):X.H w' where
 a:=h.a.ext k
 r:=h.r.ext k
 t:=h.t.ext k
 s:=h.s.ext k
 na:=h.na
 nr:=h.nr
 nt:=h.nt
 ns:=h.ns
 c0:=Ext.keep k h.c0
 c1:=Ext.keep k h.c1
 c2:=Ext.keep k h.c2
 c3:=Ext.keep k h.c3
 c4:=Ext.keep k h.c4
 cw:=fun i j hi hj=>by obtain ⟨z,h1,h2⟩:=h.cw i j hi hj;exact ⟨z,Ext.keep k h1,h2⟩
 fr:=fun o=>(Below.frozen (p:=⟨X.g,o,none⟩) k h.lt).trans (h.fr o)
theorem LC.H.set {X:LC} {w:World} (h:X.H w) {i j:Nat} (hi:i < 60) (hj:j < 60) {v:Value} (hv:v=.int .i8 ((1+X.W i j:Nat):Int)):X.H (w.setCell ⟨X.g,5+i * 60+j,none⟩ v):=by
 subst hv;have hO:Only w (w.setCell ⟨X.g,5+i * 60+j,none⟩ (.int .i8 ((1+X.W i j:Nat):Int))) X.g:=Only.setCell w X.g _ _;refine ⟨h.a.onlyS hO h.na,h.r.onlyS hO h.nr,h.t.onlyS hO h.nt,h.s.onlyS hO h.ns,h.na,h.nr,h.nt,h.ns,?_,?_,?_,?_,?_,fun i' j' hi' hj'=>?_,fun o=>by rw [World.frozen?_setCell];exact h.fr o⟩
 .rw [World.cell?_setCell_other _ _ _ _ (by first | (simp;done) | (simp;omega))];exact h.c0
 .rw [World.cell?_setCell_other _ _ _ _ (by first | (simp;done) | (simp;omega))];exact h.c1
 .rw [World.cell?_setCell_other _ _ _ _ (by first | (simp;done) | (simp;omega))];exact h.c2
 .rw [World.cell?_setCell_other _ _ _ _ (by first | (simp;done) | (simp;omega))];exact h.c3
 .rw [World.cell?_setCell_other _ _ _ _ (by first | (simp;done) | (simp;omega))];exact h.c4
 .obtain ⟨z,h1,h2⟩:=h.cw i' j' hi' hj';by_cases e:i=i'∧j=j'
  .obtain ⟨rfl,rfl⟩:=e;exact ⟨_,World.cell?_setCell_same _ _ _ h1,.inr rfl⟩
  .exact ⟨z,by rw [World.cell?_setCell_other _ _ _ _ (by first | (simp;done) | (simp;omega))];exact h1,h2⟩
def LC.Tell (X:LC) (i j:Nat) (w:World) (v:Value) (e:Ending) (w':World):Prop:=e=.returned v∧X.H w'∧Only w w' X.g
def LC.Gr (X:LC) (i j:Nat):Prop:=∀ w,X.H w→Calls Tryz.prog 123 #[.pointer (some ⟨X.g,0,none⟩),.int .i64 (i:Int),.int .i64 (j:Int)] w (X.Tell i j w (.bool (decide (0 < X.W i j))))
def LC.Below (X:LC) (N:Nat):Prop:=∀ i j,i < X.t.length→j < X.s.length→(subT X.ar X.t i).sz+(subT X.ar X.s j).sz < N→X.Gr i j
noncomputable def LC.same (X:LC) (i j:Nat):Bool:=(subT X.ar X.t i).flat == (subT X.ar X.s j).flat
theorem c_same {X:LC} {i j:Nat} {w:World} (hP:X.P) (h:X.H w) (hi:i < X.t.length) (hj:j < X.s.length) :
 Calls Tryz.prog 122 #[.pointer (some ⟨X.g,0,none⟩),.int .i64 (i:Int),.int .i64 (j:Int)] w fun e w'=>e=.returned (.bool (X.same i j))∧Ext w w':=by
 have HX:=Zh (show (X.same i j)=((subT X.ar X.t i).flat == (subT X.ar X.s j).flat) from rfl);obtain ⟨ab,ao,n,c,rb,ro,rc,tb,tq,m,d,sb,so,k,l,g,ar,rk,t,s,lex⟩:=X;obtain ⟨h1,rest1,h2⟩:=subT_ok hP.tt hi;obtain ⟨h3,rest2,h4⟩:=subT_ok hP.ts hj;have HU:=Zh h1;have HUD:=Zh h2;have HV:=Zh h3;have HVD:=Zh h4;have HS:=Zh hP.sig;have HTC:=Zh hP.tc;have HSC:=Zh hP.sc;have HA:=Zh h.a;have HT:=Zh h.t;have HZ:=Zh h.s;have c0:w.cell? ⟨g,0,none⟩=some (.slice (some ⟨ab,ao,none⟩) n c):=h.c0;have c3:w.cell? ⟨g,3,none⟩=some (.slice (some ⟨tb,tq,none⟩) m d):=h.c3;have c4:w.cell? ⟨g,4,none⟩=some (.slice (some ⟨sb,so,none⟩) k l):=h.c4;clear h1 h2 h3 h4 h hP hi hj;dsimp only at *;go_enter Tryz.func122,Tryz.ntmps122;go_wp2_with fail;refine wp_region_held_drew (S:=(fun w'=>Ext w w'∧w'.cell? ⟨g,0,none⟩=some (.slice (some ⟨ab,ao,none⟩) n c)∧w'.cell? ⟨g,3,none⟩=some (.slice (some ⟨tb,tq,none⟩) m d)∧w'.cell? ⟨g,4,none⟩=some (.slice (some ⟨sb,so,none⟩) k l))) Zk ?_ (fun hH=>?_)
 .exact ⟨(Ext.refl w).drew,c0,c3,c4⟩
 refine s6Z0 0 (.pointer (some ⟨g,0,none⟩)) 7 1 (.pointer (some ⟨g,0,none⟩)) 8 2 (.pointer (some ⟨g,0,none⟩)) 9 3 (.agg #[.slice (some ⟨ab,ao,none⟩) n c]) 10 4 (.pointer (some ⟨g,0,none⟩)) 11 5 (.pointer (some ⟨g,0,none⟩)) 12 hH ?_;refine s6Z0 6 (.pointer (some ⟨g,3,none⟩)) 13 7 (.slice (some ⟨tb,tq,none⟩) m d) 14 8 (.int .i64 (i:Int)) 15 10 (.pointer (some ⟨g,0,none⟩)) 17 11 (.pointer (some ⟨g,0,none⟩)) 18 12 (.pointer (some ⟨g,0,none⟩)) 19 hH ?_;refine s6Z0 13 (.agg #[.slice (some ⟨ab,ao,none⟩) n c]) 20 14 (.pointer (some ⟨g,0,none⟩)) 21 15 (.pointer (some ⟨g,0,none⟩)) 22 16 (.pointer (some ⟨g,4,none⟩)) 23 17 (.slice (some ⟨sb,so,none⟩) k l) 24 18 (.int .i64 (j:Int)) 25 hH ?_;refine Z4 9 fun K hK=>?_;go_wp2_with (go_at_call 99;(with_reducible refine ((c_subAt (u:=subT ar t i) (RdSig.mk (RI.ext HA.out hH.1)) (RdIc.mk HTC.out (RI.ext HT.out hH.1)) HS.out HU.out HUD.out)).mono ?_);rintro e w4 ⟨A3,n3,c3',rfl,hcap3,hr4,hE9⟩)
 refine hK.out _ _ ⟨Ext.trans hH.1 hE9,Ext.keep hE9 hH.2.1,Ext.keep hE9 hH.2.2.1,Ext.keep hE9 hH.2.2.2⟩ (fun hH9=>?_);clear hK hH;rename _=>hH;try simp only [Act.put,Zl]
 refine Z4 19 fun K hK=>?_;go_wp2_with (go_at_call 99;(with_reducible refine ((c_subAt (u:=subT ar s j) (RdSig.mk (RI.ext HA.out hH.1)) (RdIc.mk HSC.out (RI.ext HZ.out hH.1)) HS.out HV.out HVD.out)).mono ?_);rintro e w5 ⟨A4,n4,c4',rfl,hcap4,hr5,hE9⟩)
 refine hK.out _ _ ⟨Ext.trans hH.1 hE9,Ext.keep hE9 hH.2.1,Ext.keep hE9 hH.2.2.1,Ext.keep hE9 hH.2.2.2⟩ (fun hH9=>?_);clear hK hH;rename _=>hH;try simp only [Act.put,Zl]
 refine Z4 20 fun K hK=>?_;go_wp2_with (go_at_call 100;(with_reducible refine ((c_slicesEqual (xs:=(subT ar t i).flat) (ys:=(subT ar s j).flat) (RdI.mk (RI.ext hr4 hE9)) (RdI.mk hr5))).mono ?_);rintro e w6 ⟨rfl,hE9⟩)
 refine hK.out _ _ ⟨Ext.trans hH.1 hE9,Ext.keep hE9 hH.2.1,Ext.keep hE9 hH.2.2.1,Ext.keep hE9 hH.2.2.2⟩ (fun hH9=>?_);clear hK hH;rename _=>hH;try simp only [Act.put,Zl]
 refine s1Z0 21 (.bool ((subT ar t i).flat == (subT ar s j).flat)) 6 hH ?_;refine wpAnyH_done Zk ?_ _;obtain ⟨hE,_,_,_⟩:=hH;go_wp2;go_ret;exact ⟨ret_bool HX.out.symm,hE⟩
theorem c_same' {X:LC} {i j:Nat} {w:World} {b:Bool} (hb:X.same i j=b) (hP:X.P) (h:X.H w) (hi:i < X.t.length) (hj:j < X.s.length) :
 Calls Tryz.prog 122 #[.pointer (some ⟨X.g,0,none⟩),.int .i64 (i:Int),.int .i64 (j:Int)] w fun e w'=>e=.returned (.bool b)∧Ext w w':=by
 subst hb;exact c_same hP h hi hj
def LC.Fd (X:LC) (i j:Nat):Prop:=∀ w,X.H w→Calls Tryz.prog 121 #[.pointer (some ⟨X.g,0,none⟩),.int .i64 (i:Int),.int .i64 (j:Int)] w (X.Tell i j w (.int .i8 (X.W i j:Int)))
theorem LC.Fd.out {X:LC} {i j V:Nat} {w:World} (h:X.Fd i j) (hV:V=X.W i j) (hw:X.H w) :
 Calls Tryz.prog 121 #[.pointer (some ⟨X.g,0,none⟩),.int .i64 (i:Int),.int .i64 (j:Int)] w (X.Tell i j w (.int .i8 (V:Int))):=by
 subst hV;exact h w hw
theorem c_reason {X:LC} {i j:Nat} {w:World} (hP:X.P) (hF:X.Fd i j) (h:X.H w) (hi:i < X.t.length) (hj:j < X.s.length) :
 Calls Tryz.prog 118 #[.pointer (some ⟨X.g,0,none⟩),.int .i64 (i:Int),.int .i64 (j:Int)] w (X.Tell i j w (.int .i8 (X.W i j:Int))):=by
 have hi6:i < 60:=by have:=hP.tt.2.1.2;omega
 have hj6:j < 60:=by have:=hP.ts.2.1.2;omega
 obtain ⟨V,hV⟩:∃ V,V=X.W i j:=⟨_,rfl⟩;have hV3:V≤3:=by rw [hV];exact X.W_le i j
 have hii:(i:Int) < 60:=by omega
 have hjj:(j:Int) < 60:=by omega
 have hi0:(0:Int)≤(i:Int):=by omega
 have hj0:(0:Int)≤(j:Int):=by omega
 obtain ⟨z,hz,hz2⟩:=h.cw i j hi6 hj6;rw [← hV] at hz2 ⊢;have HF:=Zh hF;have HH:=Zh h;have HV:=Zh hV;clear hF h hV hi hj;rcases hz2 with rfl | rfl
 .go_enter Tryz.func118,Tryz.ntmps118;go_wp2_with fail;have hw1:IntKind.i8.wrap (1+(V:Int))=1+(V:Int):=IntWalk.i8_in _ Zo;refine wp_only (R:=fun (a0:Act) (a8:Act) (w9:World)=>a8=((((((((((((a0.put (some 16) (.pointer (some ⟨X.g,0,none⟩))).put (some 17) (.int .i64 (i:Int))).put (some 18) (.int .i64 (j:Int))).put (some 19) (.pointer (some ⟨X.g,0,none⟩))).put (some 20) (.int .i64 (i:Int))).put (some 21) (.int .i64 (j:Int))).put (some 22) (.int .i8 (V:Int))).put (some 23) (.int .i8 (1+(V:Int)))).put (some 24) (.pointer (some ⟨X.g,0,none⟩))).put (some 25) (.pointer (some ⟨X.g,5,none⟩))).put (some 26) (.pointer (some ⟨X.g,5+i * 60,none⟩))).put (some 27) (.pointer (some ⟨X.g,5+i * 60+j,none⟩)))∧X.H w9∧Only w w9 X.g∧w9.cell? ⟨X.g,5+i * 60+j,none⟩=some (.int .i8 (1+(V:Int)))) ?_ (fun a8 w2 hR=>?_)
  .refine wp_region_held_drew (S:=(fun w'=>X.H w'∧Only w w' X.g)) Zk (⟨HH.out.ext (Ext.refl w).drew,Only.of_ext (Ext.refl w).drew _⟩) (fun hH=>?_);refine s6Z2 0 (.pointer (some ⟨X.g,0,none⟩)) 16 1 (.int .i64 (i:Int)) 17 2 (.int .i64 (j:Int)) 18 3 (.pointer (some ⟨X.g,0,none⟩)) 19 4 (.int .i64 (i:Int)) 20 5 (.int .i64 (j:Int)) 21 hH ?_;refine s2Z2 8 (.pointer (some ⟨X.g,0,none⟩)) 24 9 (.pointer (some ⟨X.g,5,none⟩)) 25 hH ?_;refine s1Z2 10 (.pointer (some ⟨X.g,5+i * 60,none⟩)) 26 hH ?_;refine Z4 6 fun K hK=>?_;go_wp2_with fail
   (with_reducible refine (HF.out.out HV.out hH.1).mono ?_);rintro e w9 ⟨rfl,hH9,hO9⟩;refine hK.out _ _ (⟨hH9,hH.2.trans hO9⟩) (fun hH9=>?_);clear hK;have hH0:=hH;clear hH;have hH:=hH9;clear hH9;try simp only [Act.put,Zl]
   refine s2Z2 7 (.int .i8 (1+(V:Int))) 23 11 (.pointer (some ⟨X.g,5+i * 60+j,none⟩)) 27 hH ?_;refine Z4 12 fun K hK=>?_;obtain ⟨z9,hz9,_⟩:=hH.1.cw i j hi6 hj6;have hf9:=hH.1.fr;go_wp2_with fail;refine hK.out _ _ (⟨hH.1.set hi6 hj6 (by rw [← HV.out];first | rfl | simp),hH.2.trans (Only.setCell _ _ _ _)⟩) (fun hH9=>?_);clear hK;have hH0:=hH;clear hH;have hH:=hH9;clear hH9;try simp only [Act.put,Zl]
   refine wpAnyH_done Zk ?_ _;exact ⟨rfl,hH.1,hH.2,World.cell?_setCell_same _ _ _ (hH0.1.cw i j hi6 hj6).choose_spec.1⟩
  obtain ⟨ha,⟨hH2,hO2,hc2⟩⟩:=hR;simp only [Act.put,Zl] at ha;subst ha;have HH2:=Zh hH2;clear hH2;have hw3:IntKind.i8.wrap (1+(V:Int) - 1)=(V:Int):=by rw [show 1+(V:Int) - 1=(V:Int) by omega];exact IntWalk.i8_in _ Zo
  go_wp2;go_ret;exact ⟨rfl,HH2.out,hO2⟩
 .have hne:((1+V:Nat):Int)≠0:=by omega
  go_enter Tryz.func118,Tryz.ntmps118;go_wp2;go_ret;exact ⟨ret_int (by first | (simp;done) | (rw [IntWalk.i8_in _ Zo];omega) | omega),HH.out,Only.refl _ _⟩

