/- -/
import Derived.Test.YtiblbnkpjmmjaaaGreatQ48
set_option maxRecDepth 100000
set_option maxHeartbeats 16000000
set_option linter.all false
namespace Go.Proofs.YtiblbnkpjmmjaaaGreat
theorem x0q49 {p:Prop} (h:p:=by rw [h.1.sz];decide):p:=h
open Go.Conc Go.RowKit
set_option maxRecDepth 100000
noncomputable def bodyO:Code:=Tryz.f14.body.getD .skip
noncomputable def pO0:Code:=match bodyO with | .seq r _=>r | _=>.skip
noncomputable def pO1:Code:=match bodyO with | .seq _ (.seq r _)=>r | _=>.skip
noncomputable def pO3:Code:=match bodyO with | .seq _ (.seq _ (.seq (.seq r _) _))=>r | _=>.skip
noncomputable def pO4:Code:=match bodyO with | .seq _ (.seq _ (.seq (.seq _ r) _))=>r | _=>.skip
noncomputable def pO6:Code:=match bodyO with | .seq _ (.seq _ (.seq _ (.seq (.seq r _) _)))=>r | _=>.skip
noncomputable def pO7:Code:=match bodyO with | .seq _ (.seq _ (.seq _ (.seq (.seq _ r) _)))=>r | _=>.skip
noncomputable def pOZ:Code:=match bodyO with | .seq _ (.seq _ (.seq _ (.seq _ r)))=>r | _=>.skip
theorem bodyO_eq:bodyO=.seq pO0 (.seq pO1 (.seq (.seq pO3 pO4) (.seq (.seq pO6 pO7) pOZ))):=by simp only [pO0,pO1,pO3,pO4,pO6,pO7,pOZ,bodyO,Tryz.f14,Option.getD_some]
theorem lit47 {T:Array Value} (h:T.size=47):∃ x0 x1 x2 x3 x4 x5 x6 x7 x8 x9 x10 x11 x12 x13 x14 x15 x16 x17 x18 x19 x20 x21 x22 x23 x24 x25 x26 x27 x28 x29 x30 x31 x32 x33 x34 x35 x36 x37 x38 x39 x40 x41 x42 x43 x44 x45 x46:Value,T=#[x0,x1,x2,x3,x4,x5,x6,x7,x8,x9,x10,x11,x12,x13,x14,x15,x16,x17,x18,x19,x20,x21,x22,x23,x24,x25,x26,x27,x28,x29,x30,x31,x32,x33,x34,x35,x36,x37,x38,x39,x40,x41,x42,x43,x44,x45,x46]:=by
 obtain ⟨l⟩:=T;rcases l with _ | ⟨x0,l⟩
 .simp at h
 rcases l with _ | ⟨x1,l⟩
 .simp at h
 rcases l with _ | ⟨x2,l⟩
 .simp at h
 rcases l with _ | ⟨x3,l⟩
 .simp at h
 rcases l with _ | ⟨x4,l⟩
 .simp at h
 rcases l with _ | ⟨x5,l⟩
 .simp at h
 rcases l with _ | ⟨x6,l⟩
 .simp at h
 rcases l with _ | ⟨x7,l⟩
 .simp at h
 rcases l with _ | ⟨x8,l⟩
 .simp at h
 rcases l with _ | ⟨x9,l⟩
 .simp at h
 rcases l with _ | ⟨x10,l⟩
 .simp at h
 rcases l with _ | ⟨x11,l⟩
 .simp at h
 rcases l with _ | ⟨x12,l⟩
 .simp at h
 rcases l with _ | ⟨x13,l⟩
 .simp at h
 rcases l with _ | ⟨x14,l⟩
 .simp at h
 rcases l with _ | ⟨x15,l⟩
 .simp at h
 rcases l with _ | ⟨x16,l⟩
 .simp at h
 rcases l with _ | ⟨x17,l⟩
 .simp at h
 rcases l with _ | ⟨x18,l⟩
 .simp at h
 rcases l with _ | ⟨x19,l⟩
 .simp at h
 rcases l with _ | ⟨x20,l⟩
 .simp at h
 rcases l with _ | ⟨x21,l⟩
 .simp at h
 rcases l with _ | ⟨x22,l⟩
 .simp at h
 rcases l with _ | ⟨x23,l⟩
 .simp at h
 rcases l with _ | ⟨x24,l⟩
 .simp at h
 rcases l with _ | ⟨x25,l⟩
 .simp at h
 rcases l with _ | ⟨x26,l⟩
 .simp at h
 rcases l with _ | ⟨x27,l⟩
 .simp at h
 rcases l with _ | ⟨x28,l⟩
 .simp at h
 rcases l with _ | ⟨x29,l⟩
 .simp at h
 rcases l with _ | ⟨x30,l⟩
 .simp at h
 rcases l with _ | ⟨x31,l⟩
 .simp at h
 rcases l with _ | ⟨x32,l⟩
 .simp at h
 rcases l with _ | ⟨x33,l⟩
 .simp at h
 rcases l with _ | ⟨x34,l⟩
 .simp at h
 rcases l with _ | ⟨x35,l⟩
 .simp at h
 rcases l with _ | ⟨x36,l⟩
 .simp at h
 rcases l with _ | ⟨x37,l⟩
 .simp at h
 rcases l with _ | ⟨x38,l⟩
 .simp at h
 rcases l with _ | ⟨x39,l⟩
 .simp at h
 rcases l with _ | ⟨x40,l⟩
 .simp at h
 rcases l with _ | ⟨x41,l⟩
 .simp at h
 rcases l with _ | ⟨x42,l⟩
 .simp at h
 rcases l with _ | ⟨x43,l⟩
 .simp at h
 rcases l with _ | ⟨x44,l⟩
 .simp at h
 rcases l with _ | ⟨x45,l⟩
 .simp at h
 rcases l with _ | ⟨x46,l⟩
 .simp at h
 rcases l with _ | ⟨x,l⟩
 .exact ⟨x0,x1,x2,x3,x4,x5,x6,x7,x8,x9,x10,x11,x12,x13,x14,x15,x16,x17,x18,x19,x20,x21,x22,x23,x24,x25,x26,x27,x28,x29,x30,x31,x32,x33,x34,x35,x36,x37,x38,x39,x40,x41,x42,x43,x44,x45,x46,rfl⟩
 .simp at h
def litO (x0 x1:Value):Act:={ tmps:=#[x0,x1,undef,undef,undef,undef,undef,undef,undef,undef,undef,undef,undef,undef,undef,undef,undef,undef,undef,undef,undef,undef,undef,undef,undef,undef,undef,undef,undef,undef,undef,undef,undef,undef,undef,undef,undef,undef,undef,undef,undef,undef,undef,undef,undef,undef,undef],defers:=[] }
theorem litO_eq (x y:Value):(litO x y).tmps=#[x,y]++Array.replicate 45 undef:=by
 apply Array.ext';rw [Array.toList_append,Array.toList_replicate]
 rfl
def SbO (s:Sy) (a:Act) (v:World):Prop:=∃ q A n c B m d,a.tmps[2]?=some (Value.pointer (some ⟨q,0,none⟩))∧v.cell? ⟨q,0,none⟩=some (.slice A n c)∧v.cell? ⟨q,1,none⟩=some (.slice B m d)∧RI v A n s.ar∧RR true v B m s.rs
def Lo (v0:World) (s:Sy) (most:Int) (a:Act) (v:World):Prop:=a.tmps.size=47∧Hx v0 v∧a.tmps[1]?=some (.int .i64 most)∧SbO s a v
def Ro (v0:World) (r:Int) (a:Act) (v:World):Prop:=a.tmps.size=47∧a.tmps[4]?=some (.int .i64 r)∧Hx v0 v
section
variable {s:Sy} {a:Act} {v v' v0 w:World} {most:Int} {t:Nat} {x:Value}
theorem RI.hx {w w':World} {A:Option Addr} {n:Nat} {xs:List Int} (h:RI w A n xs) (k:Hx w w'):RI w' A n xs:=RI.ext (w:={ w' with heap:=w.heap }) h k.to
theorem RR.hx {w w':World} {b:Bool} {A:Option Addr} {n:Nat} {rs:List Ru} (h:RR b w A n rs) (k:Hx w w'):RR b w' A n rs:=RR.ext (w:={ w' with heap:=w.heap }) h k.to
theorem Hx.keep {w w':World} (k:Hx w w') {p:Addr} {x:Value} (h:w.cell? p=some x):w'.cell? p=some x:=Ext.keep k.to h
theorem Lo.hx (h:Lo v0 s most a v) (k:Hx v v'):Lo v0 s most a v':=by
 obtain ⟨h0,h1,h2,q,A,n,c,B,m,d,h3,h4,h5,h6,h7⟩:=h;exact ⟨h0,h1.trans k,h2,q,A,n,c,B,m,d,h3,k.keep h4,k.keep h5,h6.hx k,h7.hx k⟩
theorem Lo.put (h:Lo v0 s most a v) (k1:t≠1) (k2:t≠2):Lo v0 s most (a.put (some t) x) v:=by
 obtain ⟨h0,h1,h2,q,A,n,c,B,m,d,h3,h4⟩:=h;exact ⟨by rw [put_size,h0],h1,by rw [put_get,if_neg k1,h2],q,A,n,c,B,m,d,by rw [put_get,if_neg k2,h3],h4⟩
theorem Lo.sz (h:Lo v0 s most a v):a.tmps.size=47:=h.1
theorem wO0 {A B:Option Addr} {n c m d:Nat} (hH:Hx v0 w) (ha:RI w A n s.ar) (hb:RR true w B m s.rs):pO0.wp Tryz.prog (fun e a' v'=>(e=.normal∧Lo v0 s most a' v')∨(e=.ret∧False)) (litO (.agg #[.slice A n c,.slice B m d]) (.int .i64 most)) w:=by
 have HA:=Zh ha;have HB:=Zh hb;have HH:=Zh hH;clear ha hb hH;simp only [pO0,bodyO,Tryz.f14,Option.getD_some,litO];go_wp2_with fail;have hE:Ext w (w.alloc (.cells #[.slice A n c,.slice B m d] 32)):=(Ext.refl w).alloc _;exact ⟨rfl,HH.out.trans (Hx.ext hE),rfl,w.heap.size,A,n,c,B,m,d,rfl,by simp [go_sem],by simp [go_sem],HA.out.ext hE,HB.out.ext hE⟩
theorem c_mostB {b:Bool} {w:World} (hb:inB most 1 3=b):Calls Tryz.prog 20 #[.int .i64 most] w fun e w'=>e=.returned (.bool b)∧w=w':=by subst hb;exact c_mostOk
theorem c_iSysB {v:Value} {s:Sy} {w:World} {b:Bool} (hb:sysOk s=b) (h0:RdSyC w v s):Calls Tryz.prog 19 #[v] w fun e w'=>e=.returned (.bool b)∧Ext w w':=
 (c_iSystemOk h0).mono fun _ _ ⟨he,hw⟩=>⟨he.trans (ret_bool hb),hw⟩
theorem wO1 (h:Lo v0 s most a w) (hd:a.defers=[]):pO1.wp Tryz.prog (fun e a' v'=>(e=.normal∧(sysOk s=true∧inB most 1 3=true)∧Lo v0 s most a' v')∨(e=.ret∧Ro v0 (ordV s most) a' v')) a w:=by
 obtain ⟨hsz,hH,e1,⟨q,SA,sn,sc,SB,sm,sd,e2,s0,s1,hSA,hSB⟩⟩:=h;obtain ⟨tm,df⟩:=a;simp only at hd hsz e1 e2;subst hd;obtain ⟨tv0,tv1,tv2,tv3,tv4,tv5,tv6,tv7,tv8,tv9,tv10,tv11,tv12,tv13,tv14,tv15,tv16,tv17,tv18,tv19,tv20,tv21,tv22,tv23,tv24,tv25,tv26,tv27,tv28,tv29,tv30,tv31,tv32,tv33,tv34,tv35,tv36,tv37,tv38,tv39,tv40,tv41,tv42,tv43,tv44,tv45,tv46,hTm⟩:=lit47 hsz;subst hTm;simp at e1 e2;subst e1;subst e2;have HH:=Zh hH;have HSA:=Zh hSA;have HSB:=Zh hSB;clear hH hSA hSB hsz;obtain ⟨so,hso⟩:∃ b,sysOk s=b:=⟨_,rfl⟩;obtain ⟨mo,hmo⟩:∃ b,inB most 1 3=b:=⟨_,rfl⟩;have HSO:=Zh hso;have HMO:=Zh hmo;clear hso hmo;simp only [pO1,bodyO,Tryz.f14,Option.getD_some];go_wp2_with fail
 (with_reducible refine (c_iSysB HSO.out (RdSyK.mk HSA.out HSB.out)).mono ?_);rintro e w1 ⟨rfl,hE1⟩;cases so with
 | false=>
  go_wp2_with fail;exact ⟨rfl,by rw [ordV_no (.inl HSO.out)];rfl,HH.out.trans (Hx.ext hE1)⟩
 | true=>
  go_wp2_with fail
  (with_reducible refine (c_mostB HMO.out).mono ?_);rintro e w2 ⟨rfl,rfl⟩;cases mo with
  | false=>
   go_wp2_with fail;exact ⟨rfl,by rw [ordV_no (.inr HMO.out)];rfl,HH.out.trans (Hx.ext hE1)⟩
  | true=>
   go_wp2_with fail;exact ⟨⟨HSO.out,HMO.out⟩,rfl,HH.out.trans (Hx.ext hE1),rfl,q,SA,sn,sc,SB,sm,sd,rfl,Ext.keep hE1 s0,Ext.keep hE1 s1,HSA.out.ext hE1,HSB.out.ext hE1⟩
theorem wO4 (h0:sysOk s=true) (hm:inB most 1 3=true) (h:Lo v0 s most a w∧a.tmps[6]?=some (.bool (ansF true s).isSome)) (hd:a.defers=[]):pO4.wp Tryz.prog (fun e a' v'=>(e=.normal∧(ansF true s).isSome=false∧Lo v0 s most a' v')∨(e=.ret∧Ro v0 (ordV s most) a' v')) a w:=by
 have h:=show _∧_∧_∧_∧_ from ⟨h.1.1,h.1.2.1,h.1.2.2.1,h.1.2.2.2,h.2⟩
 obtain ⟨hsz,hH,e1,⟨q,SA,sn,sc,SB,sm,sd,e2,s0,s1,hSA,hSB⟩,e6⟩:=h;obtain ⟨tm,df⟩:=a;simp only at hd hsz e1 e2 e6;subst hd;obtain ⟨tv0,tv1,tv2,tv3,tv4,tv5,tv6,tv7,tv8,tv9,tv10,tv11,tv12,tv13,tv14,tv15,tv16,tv17,tv18,tv19,tv20,tv21,tv22,tv23,tv24,tv25,tv26,tv27,tv28,tv29,tv30,tv31,tv32,tv33,tv34,tv35,tv36,tv37,tv38,tv39,tv40,tv41,tv42,tv43,tv44,tv45,tv46,hTm⟩:=lit47 hsz;subst hTm;simp at e1 e2 e6;obtain ⟨bb,hb⟩:∃ b,(ansF true s).isSome=b:=⟨_,rfl⟩;rw [hb] at e6 ⊢;subst e1;subst e2;subst e6;have HH:=Zh hH;have HSA:=Zh hSA;have HSB:=Zh hSB;clear hH hSA hSB hsz;have HBB:=Zh hb;clear hb;simp only [pO4,bodyO,Tryz.f14,Option.getD_some];cases bb with
 | true=>
  go_wp2_with fail;have hb:=HBB.out;exact ⟨rfl,by rw [ordV_1 h0 hm hb];rfl,HH.out⟩
 | false=>
  go_wp2_with fail;exact ⟨rfl,HH.out,rfl,q,SA,sn,sc,SB,sm,sd,rfl,s0,s1,HSA.out,HSB.out⟩
theorem wO7 (h0:sysOk s=true) (hm:inB most 1 3=true) (h1:(ansF true s).isSome=false) (h:Lo v0 s most a w∧a.tmps[8]?=some (.bool (ansF false s).isSome)) (hd:a.defers=[]):pO7.wp Tryz.prog (fun e a' v'=>(e=.normal∧(ansF false s).isSome=false∧Lo v0 s most a' v')∨(e=.ret∧Ro v0 (ordV s most) a' v')) a w:=by
 have h:=show _∧_∧_∧_∧_ from ⟨h.1.1,h.1.2.1,h.1.2.2.1,h.1.2.2.2,h.2⟩
 obtain ⟨hsz,hH,e1,⟨q,SA,sn,sc,SB,sm,sd,e2,s0,s1,hSA,hSB⟩,e8⟩:=h;obtain ⟨tm,df⟩:=a;simp only at hd hsz e1 e2 e8;subst hd;obtain ⟨tv0,tv1,tv2,tv3,tv4,tv5,tv6,tv7,tv8,tv9,tv10,tv11,tv12,tv13,tv14,tv15,tv16,tv17,tv18,tv19,tv20,tv21,tv22,tv23,tv24,tv25,tv26,tv27,tv28,tv29,tv30,tv31,tv32,tv33,tv34,tv35,tv36,tv37,tv38,tv39,tv40,tv41,tv42,tv43,tv44,tv45,tv46,hTm⟩:=lit47 hsz;subst hTm;simp at e1 e2 e8;obtain ⟨bb,hb⟩:∃ b,(ansF false s).isSome=b:=⟨_,rfl⟩;rw [hb] at e8 ⊢;subst e1;subst e2;subst e8;have HH:=Zh hH;have HSA:=Zh hSA;have HSB:=Zh hSB;clear hH hSA hSB hsz;have HBB:=Zh hb;clear hb;simp only [pO7,bodyO,Tryz.f14,Option.getD_some];cases bb with
 | true=>
  go_wp2_with fail;have hb:=HBB.out;exact ⟨rfl,by rw [ordV_2 h0 hm h1 hb];rfl,HH.out⟩
 | false=>
  go_wp2_with fail;exact ⟨rfl,HH.out,rfl,q,SA,sn,sc,SB,sm,sd,rfl,s0,s1,HSA.out,HSB.out⟩
theorem wOZ (h0:sysOk s=true) (hm:inB most 1 3=true) (h1:(ansF true s).isSome=false) (h2:(ansF false s).isSome=false) (h:Lo v0 s most a w) (hd:a.defers=[]):pOZ.wp Tryz.prog (fun e a' v'=>(e=.normal∧False)∨(e=.ret∧Ro v0 (ordV s most) a' v')) a w:=by
 obtain ⟨hsz,hH,e1,⟨q,SA,sn,sc,SB,sm,sd,e2,s0,s1,hSA,hSB⟩⟩:=h;obtain ⟨tm,df⟩:=a;simp only at hd hsz e1 e2;subst hd;obtain ⟨tv0,tv1,tv2,tv3,tv4,tv5,tv6,tv7,tv8,tv9,tv10,tv11,tv12,tv13,tv14,tv15,tv16,tv17,tv18,tv19,tv20,tv21,tv22,tv23,tv24,tv25,tv26,tv27,tv28,tv29,tv30,tv31,tv32,tv33,tv34,tv35,tv36,tv37,tv38,tv39,tv40,tv41,tv42,tv43,tv44,tv45,tv46,hTm⟩:=lit47 hsz;subst hTm;simp at e1 e2;subst e1;subst e2;have HH:=Zh hH;have HSA:=Zh hSA;have HSB:=Zh hSB;clear hH hSA hSB hsz;obtain ⟨b3,hb3⟩:∃ b,(fwO s most).isSome=b:=⟨_,rfl⟩;obtain ⟨b4,hb4⟩:∃ b,(fpoO s most).isSome=b:=⟨_,rfl⟩;obtain ⟨W3,hW3⟩:∃ W,fwW s most=W:=⟨_,rfl⟩;obtain ⟨P4,hP4⟩:∃ P,fpoV s most=P:=⟨_,rfl⟩;have HB3:=Zh hb3;have HB4:=Zh hb4;have HW3:=Zh hW3;have HP4:=Zh hP4;have H0:=Zh (And.intro h0 (And.intro hm (And.intro h1 h2)));clear hb3 hb4 hW3 hP4 h0 hm h1 h2;simp only [pOZ,bodyO,Tryz.f14,Option.getD_some];go_wp2_with fail
 (with_reducible refine (c_iFirstWeights HW3.out HB3.out (RdSyK.mk HSA.out HSB.out)).mono ?_);rintro e w1 ⟨A5,n5,c5,B5,m5,d5,rfl,_,_,_,hE1⟩;have t0:=Ext.keep hE1 s0;have t1:=Ext.keep hE1 s1;have hq:q < w1.heap.size:=World.block_lt_of_cell? w1 _ t0;cases b3 with
 | true=>
  go_wp2_with fail;exact ⟨rfl,by rw [ordV_3 H0.out.1 H0.out.2.1 H0.out.2.2.1 H0.out.2.2.2 HB3.out];rfl,HH.out.trans (Hx.ext extX)⟩
 | false=>
  obtain ⟨hc1,hf1⟩:=bcell hE1;have HSA1:=Zh (HSA.out.ext hE1);have HSB1:=Zh (HSB.out.ext hE1);go_wp2_with fail
  (with_reducible refine (c_iFirstPolys HP4.out HB4.out (RdSyK.mk (HSA1.out.ext extX) (HSB1.out.ext extX))).mono ?_);rintro e w2 ⟨A6,n6,c6,rfl,_,hE2⟩;cases b4 with
  | true=>
   go_wp2_with fail;exact ⟨rfl,by rw [ordV_4 H0.out.1 H0.out.2.1 H0.out.2.2.1 H0.out.2.2.2 HB3.out HB4.out];rfl,HH.out.trans (Hx.ext extX)⟩
  | false=>
   go_wp2_with fail;exact ⟨rfl,by rw [ordV_5 H0.out.1 H0.out.2.1 H0.out.2.2.1 H0.out.2.2.2 HB3.out HB4.out];rfl,HH.out.trans (Hx.ext extX)⟩
end
theorem run_ldO (a:Act) (w:World) (o:Oper) (q n c m d:Nat) (A B:Option Addr) (hop:o.op=.load 32 (.tmp 2)) (hx:a.eval (.tmp 2)=.pointer (some ⟨q,0,none⟩)) (h:w.cell? ⟨q,0,none⟩=some (.slice A n c)) (h1:w.cell? ⟨q,1,none⟩=some (.slice B m d)):(execOp a.eval o).run Tryz.prog w=.ok (.value (.agg #[.slice A n c,.slice B m d])) w:=by
 simp only [Act.eval,Array.getD_eq_getD_getElem?] at hx;unfold execOp;simp only [hop];simp [go_sem,hx,h,h1]
theorem bO:(base 14).kind=.normal:=rfl
theorem bOe:(base 14).kind≠.early:=by simp [base]
theorem bOn:∃ f,Tryz.prog.funcs[(base 14).fn]?=some f:=⟨_,Tryz.func14⟩
theorem okO {m:Nat}:∀ c∈[pO0,pO1,pO4,pO7,pOZ],CodeOK Tryz.prog (LM m) c:=by
 intro c hc;simp only [List.mem_cons,List.not_mem_nil,or_false] at hc;rcases hc with rfl | rfl | rfl | rfl | rfl<;>exact codeB_ok (fun _ h=>h) (fun _ h=>h) Zk
theorem tres_O:TmpRes Tryz.f14:=tmpB_ok (P:=Tryz.prog) (k:=14) Zk _ Tryz.func14
theorem leaveO {a:Act} {y:Value} (h:a.tmps[4]?=some y) (u:World):(results Tryz.f14 a.tmps).run Tryz.prog u=.ok y u:=by
 rw [results_tmp (fn:=Tryz.f14) (t:=4) rfl];simp [h]
theorem resF_b {B:Nat} {x y:Value} {o:Option (List Int)} {v:World} (h:ResF B o (.tuple #[x,y]) v):y=.bool o.isSome:=by
 cases o with
 | none=>
  have h:Value.tuple #[x,y]=.tuple #[.slice none 0 0,.bool false]:=h;injection h with h
  injection h with h
  injection h with h1 h2
  injection h2 with h2
 | some us=>
  obtain ⟨b,n,cp,h,h2⟩:=h;injection h with h
  injection h with h
  injection h with h1 h3
  injection h3 with h3
section
variable {m:Nat} {A:An} {s:Sy} {most:Int} {Post:Value→World→Prop} {K:Nat} {StA Stop:Set_→Goroutine→World→Prop} {rc:List Frame} {k:List Item}
theorem callO3 (hSo:Offs StA) (hoS:Offs (ScrS Tryz.prog Post K)) (hK:Script_ Tryz.prog Post K=Co Tryz.prog true StA) (hmono:∀ O g w,StA O g w→ScrS Tryz.prog Post K O g w)
 (hn:Wk Tryz.prog (LM m) true StA A (base 14) rc k (fun a v=>Lo A.v s most a v∧a.tmps[6]?=some (.bool (ansF true s).isSome))):Wk Tryz.prog (LM m) true (ScrS Tryz.prog Post K) A (base 14) rc (.code pO3 :: k) (Lo A.v s most):=by
 simp only [pO3,bodyO,Tryz.f14,Option.getD_some];refine Wk.reg (l:=[0,1,2,3,4,5,6]) rfl ?_;refine Wk.op (X m) bOe rfl (d:=some 22) rfl (xtmp (m:=m) 2) (fun a v τ d h=>h) (Ψ:=fun a v=>Lo A.v s most a v∧∃ A5 n5 c5 B5 m5 d5,a.tmps[22]?=some (Value.agg #[Value.slice A5 n5 c5,Value.slice B5 m5 d5])∧RI v A5 n5 s.ar∧RR true v B5 m5 s.rs) (fun a v h _=>?_) ?_
 .have h':=h;obtain ⟨q,A5,n5,c5,B5,m5,d5,k1,k2,k3,k4,k5⟩:=h.2.2.2;exact ⟨Zr,.inl ⟨_,_,run_ldO a v _ q _ _ _ _ _ _ rfl (eval_tmp k1) k2 k3,h'.put (by decide) (by decide),A5,n5,c5,B5,m5,d5,by rw [put_get,if_pos rfl,if_pos (by rw [h.sz];decide)],k4,k5⟩⟩
 intro γ ag a v w O hp k2 k3 k4 k5 k6 k7;obtain ⟨hLa,A5,n5,c5,B5,m5,d5,h28,hri,hrr⟩:=hp;refine co_into bOe rfl rfl rfl Tryz.func41 Zr (c:=bodyQ) rfl (fun x hx=>by simp at hx;subst hx;exact trivial) k2 k3 k4 k5 k6 ?_;refine (fr_wk (A:=⟨O,γ,v,w⟩) (s:=s) hSo hoS hK hmono ?_).mono fun a' v' h=>?_
 .intro γ2 x y v2 w2 O2 hout hxy hW2 hN2 hA2;rw [Frame.finish_at];obtain ⟨y0,y1,rfl⟩:=hout.pair;have hH:=hout.1;obtain rfl:=resF_b hout.2;have hz:=hLa.sz;have hLa2:=(hLa.hx hH);obtain ⟨bb,hbb⟩:∃ b,(ansF true s).isSome=b:=⟨_,rfl⟩;rw [hbb] at hxy;rw [hbb] at hn;refine Wk.use (Φ:=fun a v'=>Lo A.v s most a v'∧a.tmps[23]?=some (.tuple #[y0,.bool bb])) (ag:=ag.put (some 23) (.tuple #[y0,.bool bb])) ⟨hLa2.put (by decide) (by decide),by rw [put_get,if_pos rfl,if_pos (by rw [hz];decide)]⟩ (by rw [put_defers,k2]) (by rw [put_defers,k3]) ((k4.mono hA2.le).put _ hxy) hW2 hN2 (k7.trans hA2) ?_;clear hLa2 hout hxy hH;refine Wk.mv (X m) bOe rfl (.inl rfl) rfl (d:=some 21) rfl (xtmp 23) (Ψ:=fun a v'=>Lo A.v s most a v'∧a.tmps[21]?=some (.tuple #[y0,.bool bb])) (fun a v h=>⟨h.1.put (by decide) (by decide),by rw [put_get,if_pos rfl,if_pos x0q49,eval_tmp h.2]⟩) ?_;refine Wk.op (X m) bOe rfl (d:=some 24) rfl (xtmp (m:=m) 21) (fun a v τ d h=>h) (Ψ:=fun a v'=>Lo A.v s most a v'∧a.tmps[21]?=some (.tuple #[y0,.bool bb])) (fun a v h _=>⟨Zr,.inl ⟨_,_,run_ex7 a v _ y0 (.bool bb) 0 21 rfl (eval_tmp h.2) (by decide),h.1.put (by decide) (by decide),by rw [put_get,if_neg (by decide),h.2]⟩⟩) ?_;refine Wk.op (X m) bOe rfl (d:=some 25) rfl (xtmp (m:=m) 21) (fun a v τ d h=>h) (Ψ:=fun a v'=>Lo A.v s most a v'∧a.tmps[25]?=some (.bool bb)) (fun a v h _=>⟨Zr,.inl ⟨_,_,run_ex7 a v _ y0 (.bool bb) 1 21 rfl (eval_tmp h.2) (by decide),h.1.put (by decide) (by decide),by rw [put_get,if_pos rfl,if_pos x0q49];rfl⟩⟩) ?_;refine Wk.mv (X m) bOe rfl (.inr rfl) rfl (d:=some 5) rfl (xtmp 24) (Ψ:=fun a v'=>Lo A.v s most a v'∧a.tmps[25]?=some (.bool bb)) (fun a v h=>⟨h.1.put (by decide) (by decide),by rw [put_get,if_neg (by decide),h.2]⟩) ?_;exact Wk.mv (X m) bOe rfl (.inr rfl) rfl (d:=some 6) rfl (xtmp 25) (fun a v h=>⟨h.1.put (by decide) (by decide),by rw [put_get,if_pos rfl,if_pos x0q49,eval_tmp h.2]⟩) (Wk.regionEnd hn)
 .obtain ⟨rfl,rfl⟩:=h;refine ⟨A5,n5,c5,B5,m5,d5,?_,hri,hrr,Hx.refl _⟩;have e:(#[Operand.tmp 22].map ag.eval)=#[.agg #[.slice A5 n5 c5,.slice B5 m5 d5]]:=by simp [eval_tmp h28]
  show Act.mk (_++_) []=_;rw [e];simp [litQ,Tryz.ntmps41]
theorem callO6 (hSo:Offs StA) (hoS:Offs (ScrS Tryz.prog Post K)) (hK:Script_ Tryz.prog Post K=Co Tryz.prog true StA) (hmono:∀ O g w,StA O g w→ScrS Tryz.prog Post K O g w)
 (hn:Wk Tryz.prog (LM m) true StA A (base 14) rc k (fun a v=>Lo A.v s most a v∧a.tmps[8]?=some (.bool (ansF false s).isSome))):Wk Tryz.prog (LM m) true (ScrS Tryz.prog Post K) A (base 14) rc (.code pO6 :: k) (Lo A.v s most):=by
 simp only [pO6,bodyO,Tryz.f14,Option.getD_some];refine Wk.reg (l:=[0,1,2,3,4,5,6]) rfl ?_;refine Wk.op (X m) bOe rfl (d:=some 28) rfl (xtmp (m:=m) 2) (fun a v τ d h=>h) (Ψ:=fun a v=>Lo A.v s most a v∧∃ A5 n5 c5 B5 m5 d5,a.tmps[28]?=some (Value.agg #[Value.slice A5 n5 c5,Value.slice B5 m5 d5])∧RI v A5 n5 s.ar∧RR true v B5 m5 s.rs) (fun a v h _=>?_) ?_
 .have h':=h;obtain ⟨q,A5,n5,c5,B5,m5,d5,k1,k2,k3,k4,k5⟩:=h.2.2.2;exact ⟨Zr,.inl ⟨_,_,run_ldO a v _ q _ _ _ _ _ _ rfl (eval_tmp k1) k2 k3,h'.put (by decide) (by decide),A5,n5,c5,B5,m5,d5,by rw [put_get,if_pos rfl,if_pos (by rw [h.sz];decide)],k4,k5⟩⟩
 intro γ ag a v w O hp k2 k3 k4 k5 k6 k7;obtain ⟨hLa,A5,n5,c5,B5,m5,d5,h28,hri,hrr⟩:=hp;refine co_into bOe rfl rfl rfl Tryz.func42 Zr (c:=bodyQB) rfl (fun x hx=>by simp at hx;subst hx;exact trivial) k2 k3 k4 k5 k6 ?_;refine (fr_wkB (A:=⟨O,γ,v,w⟩) (s:=s) hSo hoS hK hmono ?_).mono fun a' v' h=>?_
 .intro γ2 x y v2 w2 O2 hout hxy hW2 hN2 hA2;rw [Frame.finish_at];obtain ⟨y0,y1,rfl⟩:=hout.pair;have hH:=hout.1;obtain rfl:=resF_b hout.2;have hz:=hLa.sz;have hLa2:=(hLa.hx hH);obtain ⟨bb,hbb⟩:∃ b,(ansF false s).isSome=b:=⟨_,rfl⟩;rw [hbb] at hxy;rw [hbb] at hn;refine Wk.use (Φ:=fun a v'=>Lo A.v s most a v'∧a.tmps[29]?=some (.tuple #[y0,.bool bb])) (ag:=ag.put (some 29) (.tuple #[y0,.bool bb])) ⟨hLa2.put (by decide) (by decide),by rw [put_get,if_pos rfl,if_pos (by rw [hz];decide)]⟩ (by rw [put_defers,k2]) (by rw [put_defers,k3]) ((k4.mono hA2.le).put _ hxy) hW2 hN2 (k7.trans hA2) ?_;clear hLa2 hout hxy hH;refine Wk.mv (X m) bOe rfl (.inl rfl) rfl (d:=some 27) rfl (xtmp 29) (Ψ:=fun a v'=>Lo A.v s most a v'∧a.tmps[27]?=some (.tuple #[y0,.bool bb])) (fun a v h=>⟨h.1.put (by decide) (by decide),by rw [put_get,if_pos rfl,if_pos x0q49,eval_tmp h.2]⟩) ?_;refine Wk.op (X m) bOe rfl (d:=some 30) rfl (xtmp (m:=m) 27) (fun a v τ d h=>h) (Ψ:=fun a v'=>Lo A.v s most a v'∧a.tmps[27]?=some (.tuple #[y0,.bool bb])) (fun a v h _=>⟨Zr,.inl ⟨_,_,run_ex7 a v _ y0 (.bool bb) 0 27 rfl (eval_tmp h.2) (by decide),h.1.put (by decide) (by decide),by rw [put_get,if_neg (by decide),h.2]⟩⟩) ?_;refine Wk.op (X m) bOe rfl (d:=some 31) rfl (xtmp (m:=m) 27) (fun a v τ d h=>h) (Ψ:=fun a v'=>Lo A.v s most a v'∧a.tmps[31]?=some (.bool bb)) (fun a v h _=>⟨Zr,.inl ⟨_,_,run_ex7 a v _ y0 (.bool bb) 1 27 rfl (eval_tmp h.2) (by decide),h.1.put (by decide) (by decide),by rw [put_get,if_pos rfl,if_pos x0q49];rfl⟩⟩) ?_;refine Wk.mv (X m) bOe rfl (.inr rfl) rfl (d:=some 7) rfl (xtmp 30) (Ψ:=fun a v'=>Lo A.v s most a v'∧a.tmps[31]?=some (.bool bb)) (fun a v h=>⟨h.1.put (by decide) (by decide),by rw [put_get,if_neg (by decide),h.2]⟩) ?_;exact Wk.mv (X m) bOe rfl (.inr rfl) rfl (d:=some 8) rfl (xtmp 31) (fun a v h=>⟨h.1.put (by decide) (by decide),by rw [put_get,if_pos rfl,if_pos x0q49,eval_tmp h.2]⟩) (Wk.regionEnd hn)
 .obtain ⟨rfl,rfl⟩:=h;refine ⟨A5,n5,c5,B5,m5,d5,?_,hri,hrr,Hx.refl _⟩;have e:(#[Operand.tmp 28].map ag.eval)=#[.agg #[.slice A5 n5 c5,.slice B5 m5 d5]]:=by simp [eval_tmp h28]
  show Act.mk (_++_) []=_;rw [e];simp [litQ,Tryz.ntmps42]
def NextO (m:Nat) (A:An) (s:Sy) (most:Int) (StA:Set_→Goroutine→World→Prop) (c:Frame) (cs:List Frame):Prop:=
 ∀ γ x y v' w' O',(x=.int .i64 (ordV s most)∧Hx A.v v')→VRel (LM m) γ x y→WRel (LM m) γ v' w'→Named O' γ→Acc A.O A.β A.v A.w O' γ v' w'→Co Tryz.prog true StA O' (G (c.finish y) cs) w'
variable {c:Frame} {cs:List Frame}
theorem ret_O (hm:∀ O g w,StA O g w→Stop O g w) (next:NextO m A s most StA c cs):WkR Tryz.prog (LM m) true Stop A (base 14) (c :: cs) (Ro A.v (ordV s most)):=
 WkR.leave bO Tryz.func14 tres_O (R:=fun x v=>x=.int .i64 (ordV s most)∧Hx A.v v) (fun a v h=>⟨_,leaveO h.2.1,rfl,h.2.2⟩) (fun γ x y v' w' O' h1 h2 h3 h4 h5=>(next γ x y v' w' O' h1 h2 h3 h4 h5).mono hm)
theorem or_wk (next:NextO m A s most (fun _ g w=>AtEnd_ Tryz.prog Post g w) c cs) :
 Wk Tryz.prog (LM m) true (ScrS Tryz.prog Post 1) A (base 14) (c :: cs) [.code bodyO] (fun a v=>∃ A' n cp B m' d,a=litO (.agg #[.slice A' n cp,.slice B m' d]) (.int .i64 most)∧RI v A' n s.ar∧RR true v B m' s.rs∧Hx A.v v):=by
 rw [bodyO_eq];refine Wk.seq (Wk.code (X m) (offs_scr 1) (okO _ (by simp)) bO bOn (Ψ:=Lo A.v s most) (Ρ:=fun _ _=>False) (fun a v τ d h=>h) (fun a v τ d h=>h) Ins.f (fun a v h hd=>?_) ?_ WkR.no)
 .obtain ⟨A',n,cp,B,m',d,rfl,h1,h2,h3⟩:=h;exact wO0 h3 h1 h2
 refine Wk.seq (Wk.code (X m) (offs_scr 1) (okO _ (by simp)) bO bOn (Ψ:=fun a v=>(sysOk s=true∧inB most 1 3=true)∧Lo A.v s most a v) (Ρ:=Ro A.v (ordV s most)) (fun a v τ d h=>h) (fun a v τ d h=>h) (fun a v τ d h=>h) (fun a v h hd=>wO1 h hd) (Wk.pure fun hok=>?_) (ret_O (fun _ _ _=>.inl) next));refine Wk.seq (Wk.seq (callO3 (StA:=ScrS Tryz.prog Post 0) (offs_scr 0) (offs_scr 1) rfl scrS_mono ?_));refine Wk.code (X m) (offs_scr 0) (okO _ (by simp)) bO bOn (Ψ:=fun a v=>(ansF true s).isSome=false∧Lo A.v s most a v) (Ρ:=Ro A.v (ordV s most)) (fun a v τ d h=>h) (fun a v τ d h=>h) (fun a v τ d h=>h) (fun a v h hd=>wO4 hok.1 hok.2 h hd) (Wk.pure fun h1=>?_) (ret_O (fun _ _ _=>.inl) next);refine Wk.seq (Wk.seq (callO6 (StA:=fun _ g w=>AtEnd_ Tryz.prog Post g w) offs_end (offs_scr 0) rfl (fun _ _ _=>.inl) ?_));refine Wk.code (X m) offs_end (okO _ (by simp)) bO bOn (Ψ:=fun a v=>(ansF false s).isSome=false∧Lo A.v s most a v) (Ρ:=Ro A.v (ordV s most)) (fun a v τ d h=>h) (fun a v τ d h=>h) (fun a v τ d h=>h) (fun a v h hd=>wO7 hok.1 hok.2 h1 h hd) (Wk.pure fun h2=>?_) (ret_O (fun _ _ _ h=>h) next);exact Wk.code (X m) offs_end (okO _ (by simp)) bO bOn (Ψ:=fun _ _=>False) (Ρ:=Ro A.v (ordV s most)) (fun a v τ d h=>h) Ins.f (fun a v τ d h=>h) (fun a v h hd=>wOZ hok.1 hok.2 h1 h2 h hd) (fun γ ag a v w O hp=>hp.elim) (ret_O (fun _ _ _ h=>h) next)
end
end Go.Proofs.YtiblbnkpjmmjaaaGreat
namespace Go.Proofs.YtiblbnkpjmmjaaaGreat
open Go.RowKit
def RawBy (w:World) (v:Value) (n:Nat):Prop:=∃ A c,v=.slice A n c∧n≤9223372036854775807∧(0 < n→∃ b o,A=some ⟨b,o,none⟩∧∀ j,j < n→∃ y:Int,w.cell? ⟨b,o+j,none⟩=some (.int .u8 y)∧0≤y∧y≤255)
structure Dice (w:World) (g:Nat):Prop where
 at_:∃ (B:Option Addr) (n c i:Nat) (h:Int),w.cell? ⟨g,0,none⟩=some (.slice B n c)∧w.cell? ⟨g,1,none⟩=some (.int .i64 (i:Int))∧w.cell? ⟨g,2,none⟩=some (.int .u64 h)∧i≤n∧n≤4096 ∧
  (0 < n→∃ b o,B=some ⟨b,o,none⟩∧b < g∧∀ j,j < n→∃ y:Int,w.cell? ⟨b,o+j,none⟩=some (.int .u8 y)∧0≤y∧y≤255)
 fr:∀ j,w.frozen? ⟨g,j,none⟩=false
theorem Dice.ext {w w':World} {g:Nat} (h:Dice w g) (k:Ext w w'):Dice w' g:=by
 obtain ⟨⟨B,n,c,i,hh,h0,h1,h2,hi,hn,hb⟩,hf⟩:=h;refine ⟨⟨B,n,c,i,hh,Ext.keep k h0,Ext.keep k h1,Ext.keep k h2,hi,hn,fun h3=>?_⟩,fun j=>(Below.frozen (p:=⟨g,j,none⟩) k (show g < w.heap.size from World.block_lt_of_cell? w ⟨g,0,none⟩ h0)).trans (hf j)⟩;obtain ⟨b,o,e,hne,h4⟩:=hb h3;exact ⟨b,o,e,hne,fun j hj=>by obtain ⟨y,h5,h6⟩:=h4 j hj;exact ⟨y,Ext.keep k h5,h6⟩⟩
theorem Dice.below {w w':World} {g:Nat} (h:Dice w g) (k:Below (g+1) w w'):Dice w' g:=by
 obtain ⟨⟨B,n,c,i,hh,h0,h1,h2,hi,hn,hb⟩,hf⟩:=h;have hg:g < g+1:=Nat.lt_succ_self g;refine ⟨⟨B,n,c,i,hh,(Below.cell (p:=⟨g,0,none⟩) k hg).trans h0,(Below.cell (p:=⟨g,1,none⟩) k hg).trans h1,(Below.cell (p:=⟨g,2,none⟩) k hg).trans h2,hi,hn,fun h3=>?_⟩,fun j=>(Below.frozen (p:=⟨g,j,none⟩) k hg).trans (hf j)⟩;obtain ⟨b,o,e,hne,h4⟩:=hb h3;exact ⟨b,o,e,hne,fun j hj=>by obtain ⟨y,h5,h6⟩:=h4 j hj;exact ⟨y,(Below.cell (p:=⟨b,o+j,none⟩) k (show b < g+1 by omega)).trans h5,h6⟩⟩
theorem Dice.lt {w:World} {g:Nat} (h:Dice w g):g < w.heap.size:=by
 obtain ⟨⟨B,n,c,i,hh,h0,_⟩,_⟩:=h;exact World.block_lt_of_cell? w _ h0
theorem bits24 (s:Int):0≤bits BinOp.and IntKind.u64 s 16777215∧bits BinOp.and IntKind.u64 s 16777215≤16777215:=by
 have h1:(BitVec.ofInt 64 s &&& BitVec.ofInt 64 16777215).toNat≤16777215:=by
  rw [BitVec.toNat_and,show (BitVec.ofInt 64 16777215).toNat=16777215 by decide];exact Nat.and_le_right
 have h2:bits BinOp.and IntKind.u64 s 16777215=(((BitVec.ofInt 64 s &&& BitVec.ofInt 64 16777215).toNat:Nat):Int):=by
  show IntKind.u64.wrap (((BitVec.ofInt 64 s &&& BitVec.ofInt 64 16777215).toNat:Nat):Int)=_;exact IntWalk.u64_in _ Zo
 rw [h2];omega
theorem rem_bd {x n:Int} (hn:1≤n):0≤x % n∧x % n < n:=⟨Int.emod_nonneg _ Zo,Int.emod_lt_of_pos _ Zo⟩
theorem c_below {g:Nat} {n:Int} {w:World} (h0:Dice w g) (hn:1≤n) (hn2:n≤1000) :
 Calls Tryz.prog 16 #[.pointer (some ⟨g,0,none⟩),.int .i64 n] w fun e w'=>∃ x:Int,e=.returned (.int .i64 x)∧(0≤x∧x < n)∧Dice w' g∧Only w w' g:=by
 obtain ⟨⟨B,m,c,i,hh,d0,d1,d2,hi,hm,hb⟩,hf⟩:=h0;have HBY:=Zh hb;have hn0:n≠0:=by omega
 clear hb;go_enter Tryz.func16,Tryz.ntmps16;go_wp2_with fail;have hx1:=bits24 (IntKind.u64.wrap (IntKind.u64.wrap (hh * 6364136223846793005)+1442695040888963407) / 8589934592);have hx2:=IntWalk.wrap64_in (bits BinOp.and IntKind.u64 (IntKind.u64.wrap (IntKind.u64.wrap (hh * 6364136223846793005)+1442695040888963407) / 8589934592) 16777215) Zo;rw [hx2];clear hx2
 generalize bits BinOp.and IntKind.u64 (IntKind.u64.wrap (IntKind.u64.wrap (hh * 6364136223846793005)+1442695040888963407) / 8589934592) 16777215=x at hx1 ⊢
 generalize IntKind.u64.wrap (IntKind.u64.wrap (hh * 6364136223846793005)+1442695040888963407)=h'
 obtain ⟨w1,hw1⟩:∃ w1,w1=w.setCell ⟨g,2,none⟩ (.int .u64 h'):=⟨_,rfl⟩;have hO1:Only w w1 g:=by rw [hw1];exact Only.setCell _ _ _ _
 have e0:w1.cell? ⟨g,0,none⟩=some (.slice B m c):=by rw [hw1];exact (World.cell?_setCell_other _ _ _ _ (by simp)).trans d0
 have e1:w1.cell? ⟨g,1,none⟩=some (.int .i64 (i:Int)):=by rw [hw1];exact (World.cell?_setCell_other _ _ _ _ (by simp)).trans d1
 have e2:w1.cell? ⟨g,2,none⟩=some (.int .u64 h'):=by rw [hw1];exact World.cell?_setCell_same _ _ _ d2
 have ef:∀ j,w1.frozen? ⟨g,j,none⟩=false:=by intro j;rw [hw1];simp [hf]
 have HB1:=Zh (show 0 < m→∃ b o,B=some ⟨b,o,none⟩∧b < g∧∀ j,j < m→∃ y:Int,w1.cell? ⟨b,o+j,none⟩=some (.int .u8 y)∧0≤y∧y≤255 from fun h3=>by
  obtain ⟨b,o,e,hne,h4⟩:=HBY.out h3;exact ⟨b,o,e,hne,fun j hj=>by obtain ⟨y,h5,h6⟩:=h4 j hj;exact ⟨y,by rw [hw1,World.cell?_setCell_other _ _ _ _ (by first | (simp;done) | (simp;omega))];exact h5,h6⟩⟩)
 rw [← hw1];clear hw1;by_cases hlt:i < m
 .obtain ⟨b,o,rfl,hne,h4⟩:=HB1.out Zo;obtain ⟨y,hy,hy2⟩:=h4 i hlt;have hlti:(i:Int) < (m:Int):=by omega
  have hi0:(0:Int)≤(i:Int):=by omega
  have hlt1:decide ((i:Int) < (m:Int))=true:=by simp;omega
  have hxw:IntKind.i64.wrap (x+y)=x+y:=IntWalk.i64_in _ Zo;have hyw:wrap64 y=y:=IntWalk.wrap64_in _ Zo;have hr:=rem_bd (x:=x+y) hn;go_wp2_with fail;go_quiet (fail)
  go_wp2_with fail;go_quiet (fail)
  go_wp2_with fail;go_ret;refine ⟨_,rfl,hr,⟨⟨some ⟨b,o,none⟩,m,c,i+1,h',?_,?_,?_,Zo,hm,fun h3=>⟨b,o,rfl,hne,fun j hj=>?_⟩⟩,fun j=>?_⟩,?_⟩
  .exact (World.cell?_setCell_other _ _ _ _ (by simp)).trans e0
  .exact (World.cell?_setCell_same _ _ _ e1).trans (by simp)
  .exact (World.cell?_setCell_other _ _ _ _ (by simp)).trans e2
  .obtain ⟨z,h5,h6⟩:=h4 j hj;exact ⟨z,(World.cell?_setCell_other _ _ _ _ (by first | (simp;done) | (simp;omega))).trans h5,h6⟩
  .simp [ef]
  .exact (hO1.trans (Only.of_ext ((Ext.refl w1).drewN _) g)).trans (Only.setCell _ _ _ _)
 .have hlt1:decide ((i:Int) < (m:Int))=false:=by simp;omega
  have hlti:¬ (i:Int) < (m:Int):=by omega
  have hr:=rem_bd (x:=x) hn;go_wp2_with fail;go_quiet (fail)
  go_wp2_with fail;go_ret;refine ⟨_,rfl,hr,Dice.ext ⟨⟨B,m,c,i,h',e0,e1,e2,hi,hm,fun h3=>?_⟩,ef⟩ ((Ext.refl w1).drewN _),hO1.trans (Only.of_ext ((Ext.refl w1).drewN _) g)⟩;exact HB1.out h3

