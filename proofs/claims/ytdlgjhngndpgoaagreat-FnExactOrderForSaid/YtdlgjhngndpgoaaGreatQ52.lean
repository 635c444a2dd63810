/- -/
import Derived.Test.YtdlgjhngndpgoaaGreatQ51
set_option maxRecDepth 100000
set_option maxHeartbeats 16000000
set_option linter.all false
namespace Go.Proofs.YtdlgjhngndpgoaaGreat
theorem x0q52 {p:Prop} (h:p:=by rw [h.1.sz];decide):p:=h
open Go.Conc
section
variable {P:Program} {c:Nat} {z:Value} {ι:Type} {V:ι→Value→Nat→World→Prop} {Fin Fin':Set_→Goroutine→World→Prop} {Post:Value→World→Prop}
theorem mstop_mono (h:∀ O g w,Fin O g w→Fin' O g w):∀ (rs:List ι) O g w,MStop P c z V Fin rs O g w→MStop P c z V Fin' rs O g w
 | [],O,g,w,k=>⟨k.1,fun w2 hr=>h _ _ _ (k.2 w2 hr)⟩
 | r :: rs,O,g,w,k=>⟨k.1,fun w2 x b hr hb hV=>(k.2 w2 x b hr hb hV).mono (mstop_mono h rs)⟩
theorem atgo_mono (h:∀ O g w,Fin O g w→Fin' O g w) {O:Set_} {g:Goroutine} {w:World} (k:AtGo_ P c Fin O g w):AtGo_ P c Fin' O g w:=by
 obtain ⟨k1,g',child,ι,V,rs,z,k2,k3,k4,k5⟩:=k;exact ⟨k1,g',child,ι,V,rs,z,k2,k3,k4.mono (mstop_mono h rs),k5⟩
theorem atmk_mono (h:∀ O g w,Fin O g w→Fin' O g w) {O:Set_} {g:Goroutine} {w:World} (k:AtMk_ P Fin O g w):AtMk_ P Fin' O g w:=by
 obtain ⟨k1,g',k2,O',k3,k4⟩:=k;exact ⟨k1,g',k2,O',k3,k4.mono fun _ _ _=>atgo_mono h⟩
theorem scrS_mono (O:Set_) (g:Goroutine) (w:World) (h:ScrS P Post 0 O g w):ScrS P Post 1 O g w:=
 h.imp id (atmk_mono fun _ _ _ k=>Co.mono (Stop:=fun _ g w=>AtEnd_ P Post g w) k fun _ _ _=>.inl)
theorem offs_scr (kk:Nat):Offs (ScrS P Post kk):=fun O g w of h=>h.imp (fun h=>h) fun h=>h
theorem offs_end:Offs (fun _ g w=>AtEnd_ P Post g w):=fun O g w of h=>h
end
end Go.Proofs.YtdlgjhngndpgoaaGreat
namespace Go.Proofs.YtdlgjhngndpgoaaGreat
open Go.Conc Go.RowKit
set_option maxRecDepth 100000
noncomputable def bodyO:Code:=Tryz.f15.body.getD .skip
noncomputable def pO0:Code:=match bodyO with | .seq r _=>r | _=>.skip
noncomputable def pO1:Code:=match bodyO with | .seq _ (.seq r _)=>r | _=>.skip
noncomputable def pO3:Code:=match bodyO with | .seq _ (.seq _ (.seq (.seq r _) _))=>r | _=>.skip
noncomputable def pO4:Code:=match bodyO with | .seq _ (.seq _ (.seq (.seq _ r) _))=>r | _=>.skip
noncomputable def pO6:Code:=match bodyO with | .seq _ (.seq _ (.seq _ (.seq (.seq r _) _)))=>r | _=>.skip
noncomputable def pO7:Code:=match bodyO with | .seq _ (.seq _ (.seq _ (.seq (.seq _ r) _)))=>r | _=>.skip
noncomputable def pOZ:Code:=match bodyO with | .seq _ (.seq _ (.seq _ (.seq _ r)))=>r | _=>.skip
theorem bodyO_eq:bodyO=.seq pO0 (.seq pO1 (.seq (.seq pO3 pO4) (.seq (.seq pO6 pO7) pOZ))):=by simp only [pO0,pO1,pO3,pO4,pO6,pO7,pOZ,bodyO,Tryz.f15,Option.getD_some]
theorem lit47 {T:Array Value} (h:T.size=47):∃ x0 x1 x2 x3 x4 x5 x6 x7 x8 x9 x10 x11 x12 x13 x14 x15 x16 x17 x18 x19 x20 x21 x22 x23 x24 x25 x26 x27 x28 x29 x30 x31 x32 x33 x34 x35 x36 x37 x38 x39 x40 x41 x42 x43 x44 x45 x46:Value,T=#[x0,x1,x2,x3,x4,x5,x6,x7,x8,x9,x10,x11,x12,x13,x14,x15,x16,x17,x18,x19,x20,x21,x22,x23,x24,x25,x26,x27,x28,x29,x30,x31,x32,x33,x34,x35,x36,x37,x38,x39,x40,x41,x42,x43,x44,x45,x46]:=by
 obtain ⟨l⟩:=T;rcases l with _ | ⟨x0,l⟩
 .simp at h
 rcases l with _ | ⟨x1,l⟩
 .simp at h
 rcases l with _ | ⟨x2,l⟩
 .simp at h
 rcases l with _ | ⟨x3,l⟩
 .simp at h
 rcases l with _ | ⟨x4,l⟩
 .simp at h
 rcases l with _ | ⟨x5,l⟩
 .simp at h
 rcases l with _ | ⟨x6,l⟩
 .simp at h
 rcases l with _ | ⟨x7,l⟩
 .simp at h
 rcases l with _ | ⟨x8,l⟩
 .simp at h
 rcases l with _ | ⟨x9,l⟩
 .simp at h
 rcases l with _ | ⟨x10,l⟩
 .simp at h
 rcases l with _ | ⟨x11,l⟩
 .simp at h
 rcases l with _ | ⟨x12,l⟩
 .simp at h
 rcases l with _ | ⟨x13,l⟩
 .simp at h
 rcases l with _ | ⟨x14,l⟩
 .simp at h
 rcases l with _ | ⟨x15,l⟩
 .simp at h
 rcases l with _ | ⟨x16,l⟩
 .simp at h
 rcases l with _ | ⟨x17,l⟩
 .simp at h
 rcases l with _ | ⟨x18,l⟩
 .simp at h
 rcases l with _ | ⟨x19,l⟩
 .simp at h
 rcases l with _ | ⟨x20,l⟩
 .simp at h
 rcases l with _ | ⟨x21,l⟩
 .simp at h
 rcases l with _ | ⟨x22,l⟩
 .simp at h
 rcases l with _ | ⟨x23,l⟩
 .simp at h
 rcases l with _ | ⟨x24,l⟩
 .simp at h
 rcases l with _ | ⟨x25,l⟩
 .simp at h
 rcases l with _ | ⟨x26,l⟩
 .simp at h
 rcases l with _ | ⟨x27,l⟩
 .simp at h
 rcases l with _ | ⟨x28,l⟩
 .simp at h
 rcases l with _ | ⟨x29,l⟩
 .simp at h
 rcases l with _ | ⟨x30,l⟩
 .simp at h
 rcases l with _ | ⟨x31,l⟩
 .simp at h
 rcases l with _ | ⟨x32,l⟩
 .simp at h
 rcases l with _ | ⟨x33,l⟩
 .simp at h
 rcases l with _ | ⟨x34,l⟩
 .simp at h
 rcases l with _ | ⟨x35,l⟩
 .simp at h
 rcases l with _ | ⟨x36,l⟩
 .simp at h
 rcases l with _ | ⟨x37,l⟩
 .simp at h
 rcases l with _ | ⟨x38,l⟩
 .simp at h
 rcases l with _ | ⟨x39,l⟩
 .simp at h
 rcases l with _ | ⟨x40,l⟩
 .simp at h
 rcases l with _ | ⟨x41,l⟩
 .simp at h
 rcases l with _ | ⟨x42,l⟩
 .simp at h
 rcases l with _ | ⟨x43,l⟩
 .simp at h
 rcases l with _ | ⟨x44,l⟩
 .simp at h
 rcases l with _ | ⟨x45,l⟩
 .simp at h
 rcases l with _ | ⟨x46,l⟩
 .simp at h
 rcases l with _ | ⟨x,l⟩
 .exact ⟨x0,x1,x2,x3,x4,x5,x6,x7,x8,x9,x10,x11,x12,x13,x14,x15,x16,x17,x18,x19,x20,x21,x22,x23,x24,x25,x26,x27,x28,x29,x30,x31,x32,x33,x34,x35,x36,x37,x38,x39,x40,x41,x42,x43,x44,x45,x46,rfl⟩
 .simp at h
def litO (x0 x1:Value):Act:={ tmps:=#[x0,x1,undef,undef,undef,undef,undef,undef,undef,undef,undef,undef,undef,undef,undef,undef,undef,undef,undef,undef,undef,undef,undef,undef,undef,undef,undef,undef,undef,undef,undef,undef,undef,undef,undef,undef,undef,undef,undef,undef,undef,undef,undef,undef,undef,undef,undef],defers:=[] }
theorem litO_eq (x y:Value):(litO x y).tmps=#[x,y]++Array.replicate 45 undef:=by
 apply Array.ext';rw [Array.toList_append,Array.toList_replicate]
 rfl
def SbO (s:Sy) (a:Act) (v:World):Prop:=∃ q A n c B m d,a.tmps[2]?=some (Value.pointer (some ⟨q,0,none⟩))∧v.cell? ⟨q,0,none⟩=some (.slice A n c)∧v.cell? ⟨q,1,none⟩=some (.slice B m d)∧RI v A n s.ar∧RR true v B m s.rs
def Lo (v0:World) (s:Sy) (most:Int) (a:Act) (v:World):Prop:=a.tmps.size=47∧Hx v0 v∧a.tmps[1]?=some (.int .i64 most)∧SbO s a v
def Ro (v0:World) (r:Int) (a:Act) (v:World):Prop:=a.tmps.size=47∧a.tmps[4]?=some (.int .i64 r)∧Hx v0 v
section
variable {s:Sy} {a:Act} {v v' v0 w:World} {most:Int} {t:Nat} {x:Value}
theorem RI.hx {w w':World} {A:Option Addr} {n:Nat} {xs:List Int} (h:RI w A n xs) (k:Hx w w'):RI w' A n xs:=RI.ext (w:={ w' with heap:=w.heap }) h k.to
theorem RR.hx {w w':World} {b:Bool} {A:Option Addr} {n:Nat} {rs:List Ru} (h:RR b w A n rs) (k:Hx w w'):RR b w' A n rs:=RR.ext (w:={ w' with heap:=w.heap }) h k.to
theorem Hx.keep {w w':World} (k:Hx w w') {p:Addr} {x:Value} (h:w.cell? p=some x):w'.cell? p=some x:=Ext.keep k.to h
theorem Lo.hx (h:Lo v0 s most a v) (k:Hx v v'):Lo v0 s most a v':=by
 obtain ⟨h0,h1,h2,q,A,n,c,B,m,d,h3,h4,h5,h6,h7⟩:=h;exact ⟨h0,h1.trans k,h2,q,A,n,c,B,m,d,h3,k.keep h4,k.keep h5,h6.hx k,h7.hx k⟩
theorem Lo.put (h:Lo v0 s most a v) (k1:t≠1) (k2:t≠2):Lo v0 s most (a.put (some t) x) v:=by
 obtain ⟨h0,h1,h2,q,A,n,c,B,m,d,h3,h4⟩:=h;exact ⟨by rw [put_size,h0],h1,by rw [put_get,if_neg k1,h2],q,A,n,c,B,m,d,by rw [put_get,if_neg k2,h3],h4⟩
theorem Lo.sz (h:Lo v0 s most a v):a.tmps.size=47:=h.1
theorem wO0 {A B:Option Addr} {n c m d:Nat} (hH:Hx v0 w) (ha:RI w A n s.ar) (hb:RR true w B m s.rs):pO0.wp Tryz.prog (fun e a' v'=>(e=.normal∧Lo v0 s most a' v')∨(e=.ret∧False)) (litO (.agg #[.slice A n c,.slice B m d]) (.int .i64 most)) w:=by
 have HA:=Zh ha;have HB:=Zh hb;have HH:=Zh hH;clear ha hb hH;simp only [pO0,bodyO,Tryz.f15,Option.getD_some,litO];go_wp2_with fail;have hE:Ext w (w.alloc (.cells #[.slice A n c,.slice B m d] 32)):=(Ext.refl w).alloc _;exact ⟨rfl,HH.out.trans (Hx.ext hE),rfl,w.heap.size,A,n,c,B,m,d,rfl,by simp [go_sem],by simp [go_sem],HA.out.ext hE,HB.out.ext hE⟩
theorem c_mostB {b:Bool} {w:World} (hb:inB most 1 3=b):Calls Tryz.prog 25 #[.int .i64 most] w fun e w'=>e=.returned (.bool b)∧w=w':=by subst hb;exact c_mostOk
theorem c_iSysB {v:Value} {s:Sy} {w:World} {b:Bool} (hb:sysOk s=b) (h0:RdSyC w v s):Calls Tryz.prog 24 #[v] w fun e w'=>e=.returned (.bool b)∧Ext w w':=
 (c_iSystemOk h0).mono fun _ _ ⟨he,hw⟩=>⟨he.trans (ret_bool hb),hw⟩
theorem wO1 (h:Lo v0 s most a w) (hd:a.defers=[]):pO1.wp Tryz.prog (fun e a' v'=>(e=.normal∧(sysOk s=true∧inB most 1 3=true)∧Lo v0 s most a' v')∨(e=.ret∧Ro v0 (ordV s most) a' v')) a w:=by
 obtain ⟨hsz,hH,e1,⟨q,SA,sn,sc,SB,sm,sd,e2,s0,s1,hSA,hSB⟩⟩:=h;obtain ⟨tm,df⟩:=a;simp only at hd hsz e1 e2;subst hd;obtain ⟨tv0,tv1,tv2,tv3,tv4,tv5,tv6,tv7,tv8,tv9,tv10,tv11,tv12,tv13,tv14,tv15,tv16,tv17,tv18,tv19,tv20,tv21,tv22,tv23,tv24,tv25,tv26,tv27,tv28,tv29,tv30,tv31,tv32,tv33,tv34,tv35,tv36,tv37,tv38,tv39,tv40,tv41,tv42,tv43,tv44,tv45,tv46,hTm⟩:=lit47 hsz;subst hTm;simp at e1 e2;subst e1;subst e2;have HH:=Zh hH;have HSA:=Zh hSA;have HSB:=Zh hSB;clear hH hSA hSB hsz;obtain ⟨so,hso⟩:∃ b,sysOk s=b:=⟨_,rfl⟩;obtain ⟨mo,hmo⟩:∃ b,inB most 1 3=b:=⟨_,rfl⟩;have HSO:=Zh hso;have HMO:=Zh hmo;clear hso hmo;simp only [pO1,bodyO,Tryz.f15,Option.getD_some];go_wp2_with fail
 (with_reducible refine (c_iSysB HSO.out (RdSyK.mk HSA.out HSB.out)).mono ?_);rintro e w1 ⟨rfl,hE1⟩;cases so with
 | false=>
  go_wp2_with fail;exact ⟨rfl,by rw [ordV_no (.inl HSO.out)];rfl,HH.out.trans (Hx.ext hE1)⟩
 | true=>
  go_wp2_with fail
  (with_reducible refine (c_mostB HMO.out).mono ?_);rintro e w2 ⟨rfl,rfl⟩;cases mo with
  | false=>
   go_wp2_with fail;exact ⟨rfl,by rw [ordV_no (.inr HMO.out)];rfl,HH.out.trans (Hx.ext hE1)⟩
  | true=>
   go_wp2_with fail;exact ⟨⟨HSO.out,HMO.out⟩,rfl,HH.out.trans (Hx.ext hE1),rfl,q,SA,sn,sc,SB,sm,sd,rfl,Ext.keep hE1 s0,Ext.keep hE1 s1,HSA.out.ext hE1,HSB.out.ext hE1⟩
theorem wO4 (h0:sysOk s=true) (hm:inB most 1 3=true) (h:Lo v0 s most a w∧a.tmps[6]?=some (.bool (ansF true s).isSome)) (hd:a.defers=[]):pO4.wp Tryz.prog (fun e a' v'=>(e=.normal∧(ansF true s).isSome=false∧Lo v0 s most a' v')∨(e=.ret∧Ro v0 (ordV s most) a' v')) a w:=by
 have h:=show _∧_∧_∧_∧_ from ⟨h.1.1,h.1.2.1,h.1.2.2.1,h.1.2.2.2,h.2⟩
 obtain ⟨hsz,hH,e1,⟨q,SA,sn,sc,SB,sm,sd,e2,s0,s1,hSA,hSB⟩,e6⟩:=h;obtain ⟨tm,df⟩:=a;simp only at hd hsz e1 e2 e6;subst hd;obtain ⟨tv0,tv1,tv2,tv3,tv4,tv5,tv6,tv7,tv8,tv9,tv10,tv11,tv12,tv13,tv14,tv15,tv16,tv17,tv18,tv19,tv20,tv21,tv22,tv23,tv24,tv25,tv26,tv27,tv28,tv29,tv30,tv31,tv32,tv33,tv34,tv35,tv36,tv37,tv38,tv39,tv40,tv41,tv42,tv43,tv44,tv45,tv46,hTm⟩:=lit47 hsz;subst hTm;simp at e1 e2 e6;obtain ⟨bb,hb⟩:∃ b,(ansF true s).isSome=b:=⟨_,rfl⟩;rw [hb] at e6 ⊢;subst e1;subst e2;subst e6;have HH:=Zh hH;have HSA:=Zh hSA;have HSB:=Zh hSB;clear hH hSA hSB hsz;have HBB:=Zh hb;clear hb;simp only [pO4,bodyO,Tryz.f15,Option.getD_some];cases bb with
 | true=>
  go_wp2_with fail;have hb:=HBB.out;exact ⟨rfl,by rw [ordV_1 h0 hm hb];rfl,HH.out⟩
 | false=>
  go_wp2_with fail;exact ⟨rfl,HH.out,rfl,q,SA,sn,sc,SB,sm,sd,rfl,s0,s1,HSA.out,HSB.out⟩
theorem wO7 (h0:sysOk s=true) (hm:inB most 1 3=true) (h1:(ansF true s).isSome=false) (h:Lo v0 s most a w∧a.tmps[8]?=some (.bool (ansF false s).isSome)) (hd:a.defers=[]):pO7.wp Tryz.prog (fun e a' v'=>(e=.normal∧(ansF false s).isSome=false∧Lo v0 s most a' v')∨(e=.ret∧Ro v0 (ordV s most) a' v')) a w:=by
 have h:=show _∧_∧_∧_∧_ from ⟨h.1.1,h.1.2.1,h.1.2.2.1,h.1.2.2.2,h.2⟩
 obtain ⟨hsz,hH,e1,⟨q,SA,sn,sc,SB,sm,sd,e2,s0,s1,hSA,hSB⟩,e8⟩:=h;obtain ⟨tm,df⟩:=a;simp only at hd hsz e1 e2 e8;subst hd;obtain ⟨tv0,tv1,tv2,tv3,tv4,tv5,tv6,tv7,tv8,tv9,tv10,tv11,tv12,tv13,tv14,tv15,tv16,tv17,tv18,tv19,tv20,tv21,tv22,tv23,tv24,tv25,tv26,tv27,tv28,tv29,tv30,tv31,tv32,tv33,tv34,tv35,tv36,tv37,tv38,tv39,tv40,tv41,tv42,tv43,tv44,tv45,tv46,hTm⟩:=lit47 hsz;subst hTm;simp at e1 e2 e8;obtain ⟨bb,hb⟩:∃ b,(ansF false s).isSome=b:=⟨_,rfl⟩;rw [hb] at e8 ⊢;subst e1;subst e2;subst e8;have HH:=Zh hH;have HSA:=Zh hSA;have HSB:=Zh hSB;clear hH hSA hSB hsz;have HBB:=Zh hb;clear hb;simp only [pO7,bodyO,Tryz.f15,Option.getD_some];cases bb with
 | true=>
  go_wp2_with fail;have hb:=HBB.out;exact ⟨rfl,by rw [ordV_2 h0 hm h1 hb];rfl,HH.out⟩
 | false=>
  go_wp2_with fail;exact ⟨rfl,HH.out,rfl,q,SA,sn,sc,SB,sm,sd,rfl,s0,s1,HSA.out,HSB.out⟩
theorem wOZ (h0:sysOk s=true) (hm:inB most 1 3=true) (h1:(ansF true s).isSome=false) (h2:(ansF false s).isSome=false) (h:Lo v0 s most a w) (hd:a.defers=[]):pOZ.wp Tryz.prog (fun e a' v'=>(e=.normal∧False)∨(e=.ret∧Ro v0 (ordV s most) a' v')) a w:=by
 obtain ⟨hsz,hH,e1,⟨q,SA,sn,sc,SB,sm,sd,e2,s0,s1,hSA,hSB⟩⟩:=h;obtain ⟨tm,df⟩:=a;simp only at hd hsz e1 e2;subst hd;obtain ⟨tv0,tv1,tv2,tv3,tv4,tv5,tv6,tv7,tv8,tv9,tv10,tv11,tv12,tv13,tv14,tv15,tv16,tv17,tv18,tv19,tv20,tv21,tv22,tv23,tv24,tv25,tv26,tv27,tv28,tv29,tv30,tv31,tv32,tv33,tv34,tv35,tv36,tv37,tv38,tv39,tv40,tv41,tv42,tv43,tv44,tv45,tv46,hTm⟩:=lit47 hsz;subst hTm;simp at e1 e2;subst e1;subst e2;have HH:=Zh hH;have HSA:=Zh hSA;have HSB:=Zh hSB;clear hH hSA hSB hsz;obtain ⟨b3,hb3⟩:∃ b,(fwO s most).isSome=b:=⟨_,rfl⟩;obtain ⟨b4,hb4⟩:∃ b,(fpoO s most).isSome=b:=⟨_,rfl⟩;obtain ⟨W3,hW3⟩:∃ W,fwW s most=W:=⟨_,rfl⟩;obtain ⟨P4,hP4⟩:∃ P,fpoV s most=P:=⟨_,rfl⟩;have HB3:=Zh hb3;have HB4:=Zh hb4;have HW3:=Zh hW3;have HP4:=Zh hP4;have H0:=Zh (And.intro h0 (And.intro hm (And.intro h1 h2)));clear hb3 hb4 hW3 hP4 h0 hm h1 h2;simp only [pOZ,bodyO,Tryz.f15,Option.getD_some];go_wp2_with fail
 (with_reducible refine (c_iFirstWeights HW3.out HB3.out (RdSyK.mk HSA.out HSB.out)).mono ?_);rintro e w1 ⟨A5,n5,c5,B5,m5,d5,rfl,_,_,_,hE1⟩;have t0:=Ext.keep hE1 s0;have t1:=Ext.keep hE1 s1;have hq:q < w1.heap.size:=World.block_lt_of_cell? w1 _ t0;cases b3 with
 | true=>
  go_wp2_with fail;exact ⟨rfl,by rw [ordV_3 H0.out.1 H0.out.2.1 H0.out.2.2.1 H0.out.2.2.2 HB3.out];rfl,HH.out.trans (Hx.ext extX)⟩
 | false=>
  obtain ⟨hc1,hf1⟩:=bcell hE1;have HSA1:=Zh (HSA.out.ext hE1);have HSB1:=Zh (HSB.out.ext hE1);go_wp2_with fail
  (with_reducible refine (c_iFirstPolys HP4.out HB4.out (RdSyK.mk (HSA1.out.ext extX) (HSB1.out.ext extX))).mono ?_);rintro e w2 ⟨A6,n6,c6,rfl,_,hE2⟩;cases b4 with
  | true=>
   go_wp2_with fail;exact ⟨rfl,by rw [ordV_4 H0.out.1 H0.out.2.1 H0.out.2.2.1 H0.out.2.2.2 HB3.out HB4.out];rfl,HH.out.trans (Hx.ext extX)⟩
  | false=>
   go_wp2_with fail;exact ⟨rfl,by rw [ordV_5 H0.out.1 H0.out.2.1 H0.out.2.2.1 H0.out.2.2.2 HB3.out HB4.out];rfl,HH.out.trans (Hx.ext extX)⟩
end
theorem run_ldO (a:Act) (w:World) (o:Oper) (q n c m d:Nat) (A B:Option Addr) (hop:o.op=.load 32 (.tmp 2)) (hx:a.eval (.tmp 2)=.pointer (some ⟨q,0,none⟩)) (h:w.cell? ⟨q,0,none⟩=some (.slice A n c)) (h1:w.cell? ⟨q,1,none⟩=some (.slice B m d)):(execOp a.eval o).run Tryz.prog w=.ok (.value (.agg #[.slice A n c,.slice B m d])) w:=by
 simp only [Act.eval,Array.getD_eq_getD_getElem?] at hx;unfold execOp;simp only [hop];simp [go_sem,hx,h,h1]
theorem bO:(base 15).kind=.normal:=rfl
theorem bOe:(base 15).kind≠.early:=by simp [base]
theorem bOn:∃ f,Tryz.prog.funcs[(base 15).fn]?=some f:=⟨_,Tryz.func15⟩
theorem okO {m:Nat}:∀ c∈[pO0,pO1,pO4,pO7,pOZ],CodeOK Tryz.prog (LM m) c:=by
 intro c hc;simp only [List.mem_cons,List.not_mem_nil,or_false] at hc;rcases hc with rfl | rfl | rfl | rfl | rfl<;>exact codeB_ok (fun _ h=>h) (fun _ h=>h) Zk
theorem tres_O:TmpRes Tryz.f15:=tmpB_ok (P:=Tryz.prog) (k:=15) Zk _ Tryz.func15
theorem leaveO {a:Act} {y:Value} (h:a.tmps[4]?=some y) (u:World):(results Tryz.f15 a.tmps).run Tryz.prog u=.ok y u:=by
 rw [results_tmp (fn:=Tryz.f15) (t:=4) rfl];simp [h]
theorem resF_b {B:Nat} {x y:Value} {o:Option (List Int)} {v:World} (h:ResF B o (.tuple #[x,y]) v):y=.bool o.isSome:=by
 cases o with
 | none=>
  have h:Value.tuple #[x,y]=.tuple #[.slice none 0 0,.bool false]:=h;injection h with h
  injection h with h
  injection h with h1 h2
  injection h2 with h2
 | some us=>
  obtain ⟨b,n,cp,h,h2⟩:=h;injection h with h
  injection h with h
  injection h with h1 h3
  injection h3 with h3
section
variable {m:Nat} {A:An} {s:Sy} {most:Int} {Post:Value→World→Prop} {K:Nat} {StA Stop:Set_→Goroutine→World→Prop} {rc:List Frame} {k:List Item}
theorem callO3 (hSo:Offs StA) (hoS:Offs (ScrS Tryz.prog Post K)) (hK:Script_ Tryz.prog Post K=Co Tryz.prog true StA) (hmono:∀ O g w,StA O g w→ScrS Tryz.prog Post K O g w)
 (hn:Wk Tryz.prog (LM m) true StA A (base 15) rc k (fun a v=>Lo A.v s most a v∧a.tmps[6]?=some (.bool (ansF true s).isSome))):Wk Tryz.prog (LM m) true (ScrS Tryz.prog Post K) A (base 15) rc (.code pO3 :: k) (Lo A.v s most):=by
 simp only [pO3,bodyO,Tryz.f15,Option.getD_some];refine Wk.reg (l:=[0,1,2,3,4,5,6]) rfl ?_;refine Wk.op (X m) bOe rfl (d:=some 22) rfl (xtmp (m:=m) 2) (fun a v τ d h=>h) (Ψ:=fun a v=>Lo A.v s most a v∧∃ A5 n5 c5 B5 m5 d5,a.tmps[22]?=some (Value.agg #[Value.slice A5 n5 c5,Value.slice B5 m5 d5])∧RI v A5 n5 s.ar∧RR true v B5 m5 s.rs) (fun a v h _=>?_) ?_
 .have h':=h;obtain ⟨q,A5,n5,c5,B5,m5,d5,k1,k2,k3,k4,k5⟩:=h.2.2.2;exact ⟨Zr,.inl ⟨_,_,run_ldO a v _ q _ _ _ _ _ _ rfl (eval_tmp k1) k2 k3,h'.put (by decide) (by decide),A5,n5,c5,B5,m5,d5,by rw [put_get,if_pos rfl,if_pos (by rw [h.sz];decide)],k4,k5⟩⟩
 intro γ ag a v w O hp k2 k3 k4 k5 k6 k7;obtain ⟨hLa,A5,n5,c5,B5,m5,d5,h28,hri,hrr⟩:=hp;refine co_into bOe rfl rfl rfl Tryz.func46 Zr (c:=bodyQ) rfl (fun x hx=>by simp at hx;subst hx;exact trivial) k2 k3 k4 k5 k6 ?_;refine (fr_wk (A:=⟨O,γ,v,w⟩) (s:=s) hSo hoS hK hmono ?_).mono fun a' v' h=>?_
 .intro γ2 x y v2 w2 O2 hout hxy hW2 hN2 hA2;rw [Frame.finish_at];obtain ⟨y0,y1,rfl⟩:=hout.pair;have hH:=hout.1;obtain rfl:=resF_b hout.2;have hz:=hLa.sz;have hLa2:=(hLa.hx hH);obtain ⟨bb,hbb⟩:∃ b,(ansF true s).isSome=b:=⟨_,rfl⟩;rw [hbb] at hxy;rw [hbb] at hn;refine Wk.use (Φ:=fun a v'=>Lo A.v s most a v'∧a.tmps[23]?=some (.tuple #[y0,.bool bb])) (ag:=ag.put (some 23) (.tuple #[y0,.bool bb])) ⟨hLa2.put (by decide) (by decide),by rw [put_get,if_pos rfl,if_pos (by rw [hz];decide)]⟩ (by rw [put_defers,k2]) (by rw [put_defers,k3]) ((k4.mono hA2.le).put _ hxy) hW2 hN2 (k7.trans hA2) ?_;clear hLa2 hout hxy hH;refine Wk.mv (X m) bOe rfl (.inl rfl) rfl (d:=some 21) rfl (xtmp 23) (Ψ:=fun a v'=>Lo A.v s most a v'∧a.tmps[21]?=some (.tuple #[y0,.bool bb])) (fun a v h=>⟨h.1.put (by decide) (by decide),by rw [put_get,if_pos rfl,if_pos x0q52,eval_tmp h.2]⟩) ?_;refine Wk.op (X m) bOe rfl (d:=some 24) rfl (xtmp (m:=m) 21) (fun a v τ d h=>h) (Ψ:=fun a v'=>Lo A.v s most a v'∧a.tmps[21]?=some (.tuple #[y0,.bool bb])) (fun a v h _=>⟨Zr,.inl ⟨_,_,run_ex7 a v _ y0 (.bool bb) 0 21 rfl (eval_tmp h.2) (by decide),h.1.put (by decide) (by decide),by rw [put_get,if_neg (by decide),h.2]⟩⟩) ?_;refine Wk.op (X m) bOe rfl (d:=some 25) rfl (xtmp (m:=m) 21) (fun a v τ d h=>h) (Ψ:=fun a v'=>Lo A.v s most a v'∧a.tmps[25]?=some (.bool bb)) (fun a v h _=>⟨Zr,.inl ⟨_,_,run_ex7 a v _ y0 (.bool bb) 1 21 rfl (eval_tmp h.2) (by decide),h.1.put (by decide) (by decide),by rw [put_get,if_pos rfl,if_pos x0q52];rfl⟩⟩) ?_;refine Wk.mv (X m) bOe rfl (.inr rfl) rfl (d:=some 5) rfl (xtmp 24) (Ψ:=fun a v'=>Lo A.v s most a v'∧a.tmps[25]?=some (.bool bb)) (fun a v h=>⟨h.1.put (by decide) (by decide),by rw [put_get,if_neg (by decide),h.2]⟩) ?_;exact Wk.mv (X m) bOe rfl (.inr rfl) rfl (d:=some 6) rfl (xtmp 25) (fun a v h=>⟨h.1.put (by decide) (by decide),by rw [put_get,if_pos rfl,if_pos x0q52,eval_tmp h.2]⟩) (Wk.regionEnd hn)
 .obtain ⟨rfl,rfl⟩:=h;refine ⟨A5,n5,c5,B5,m5,d5,?_,hri,hrr,Hx.refl _⟩;have e:(#[Operand.tmp 22].map ag.eval)=#[.agg #[.slice A5 n5 c5,.slice B5 m5 d5]]:=by simp [eval_tmp h28]
  show Act.mk (_++_) []=_;rw [e];simp [litQ,Tryz.ntmps46]
theorem callO6 (hSo:Offs StA) (hoS:Offs (ScrS Tryz.prog Post K)) (hK:Script_ Tryz.prog Post K=Co Tryz.prog true StA) (hmono:∀ O g w,StA O g w→ScrS Tryz.prog Post K O g w)
 (hn:Wk Tryz.prog (LM m) true StA A (base 15) rc k (fun a v=>Lo A.v s most a v∧a.tmps[8]?=some (.bool (ansF false s).isSome))):Wk Tryz.prog (LM m) true (ScrS Tryz.prog Post K) A (base 15) rc (.code pO6 :: k) (Lo A.v s most):=by
 simp only [pO6,bodyO,Tryz.f15,Option.getD_some];refine Wk.reg (l:=[0,1,2,3,4,5,6]) rfl ?_;refine Wk.op (X m) bOe rfl (d:=some 28) rfl (xtmp (m:=m) 2) (fun a v τ d h=>h) (Ψ:=fun a v=>Lo A.v s most a v∧∃ A5 n5 c5 B5 m5 d5,a.tmps[28]?=some (Value.agg #[Value.slice A5 n5 c5,Value.slice B5 m5 d5])∧RI v A5 n5 s.ar∧RR true v B5 m5 s.rs) (fun a v h _=>?_) ?_
 .have h':=h;obtain ⟨q,A5,n5,c5,B5,m5,d5,k1,k2,k3,k4,k5⟩:=h.2.2.2;exact ⟨Zr,.inl ⟨_,_,run_ldO a v _ q _ _ _ _ _ _ rfl (eval_tmp k1) k2 k3,h'.put (by decide) (by decide),A5,n5,c5,B5,m5,d5,by rw [put_get,if_pos rfl,if_pos (by rw [h.sz];decide)],k4,k5⟩⟩
 intro γ ag a v w O hp k2 k3 k4 k5 k6 k7;obtain ⟨hLa,A5,n5,c5,B5,m5,d5,h28,hri,hrr⟩:=hp;refine co_into bOe rfl rfl rfl Tryz.func47 Zr (c:=bodyQB) rfl (fun x hx=>by simp at hx;subst hx;exact trivial) k2 k3 k4 k5 k6 ?_;refine (fr_wkB (A:=⟨O,γ,v,w⟩) (s:=s) hSo hoS hK hmono ?_).mono fun a' v' h=>?_
 .intro γ2 x y v2 w2 O2 hout hxy hW2 hN2 hA2;rw [Frame.finish_at];obtain ⟨y0,y1,rfl⟩:=hout.pair;have hH:=hout.1;obtain rfl:=resF_b hout.2;have hz:=hLa.sz;have hLa2:=(hLa.hx hH);obtain ⟨bb,hbb⟩:∃ b,(ansF false s).isSome=b:=⟨_,rfl⟩;rw [hbb] at hxy;rw [hbb] at hn;refine Wk.use (Φ:=fun a v'=>Lo A.v s most a v'∧a.tmps[29]?=some (.tuple #[y0,.bool bb])) (ag:=ag.put (some 29) (.tuple #[y0,.bool bb])) ⟨hLa2.put (by decide) (by decide),by rw [put_get,if_pos rfl,if_pos (by rw [hz];decide)]⟩ (by rw [put_defers,k2]) (by rw [put_defers,k3]) ((k4.mono hA2.le).put _ hxy) hW2 hN2 (k7.trans hA2) ?_;clear hLa2 hout hxy hH;refine Wk.mv (X m) bOe rfl (.inl rfl) rfl (d:=some 27) rfl (xtmp 29) (Ψ:=fun a v'=>Lo A.v s most a v'∧a.tmps[27]?=some (.tuple #[y0,.bool bb])) (fun a v h=>⟨h.1.put (by decide) (by decide),by rw [put_get,if_pos rfl,if_pos x0q52,eval_tmp h.2]⟩) ?_;refine Wk.op (X m) bOe rfl (d:=some 30) rfl (xtmp (m:=m) 27) (fun a v τ d h=>h) (Ψ:=fun a v'=>Lo A.v s most a v'∧a.tmps[27]?=some (.tuple #[y0,.bool bb])) (fun a v h _=>⟨Zr,.inl ⟨_,_,run_ex7 a v _ y0 (.bool bb) 0 27 rfl (eval_tmp h.2) (by decide),h.1.put (by decide) (by decide),by rw [put_get,if_neg (by decide),h.2]⟩⟩) ?_;refine Wk.op (X m) bOe rfl (d:=some 31) rfl (xtmp (m:=m) 27) (fun a v τ d h=>h) (Ψ:=fun a v'=>Lo A.v s most a v'∧a.tmps[31]?=some (.bool bb)) (fun a v h _=>⟨Zr,.inl ⟨_,_,run_ex7 a v _ y0 (.bool bb) 1 27 rfl (eval_tmp h.2) (by decide),h.1.put (by decide) (by decide),by rw [put_get,if_pos rfl,if_pos x0q52];rfl⟩⟩) ?_;refine Wk.mv (X m) bOe rfl (.inr rfl) rfl (d:=some 7) rfl (xtmp 30) (Ψ:=fun a v'=>Lo A.v s most a v'∧a.tmps[31]?=some (.bool bb)) (fun a v h=>⟨h.1.put (by decide) (by decide),by rw [put_get,if_neg (by decide),h.2]⟩) ?_;exact Wk.mv (X m) bOe rfl (.inr rfl) rfl (d:=some 8) rfl (xtmp 31) (fun a v h=>⟨h.1.put (by decide) (by decide),by rw [put_get,if_pos rfl,if_pos x0q52,eval_tmp h.2]⟩) (Wk.regionEnd hn)
 .obtain ⟨rfl,rfl⟩:=h;refine ⟨A5,n5,c5,B5,m5,d5,?_,hri,hrr,Hx.refl _⟩;have e:(#[Operand.tmp 28].map ag.eval)=#[.agg #[.slice A5 n5 c5,.slice B5 m5 d5]]:=by simp [eval_tmp h28]
  show Act.mk (_++_) []=_;rw [e];simp [litQ,Tryz.ntmps47]
def NextO (m:Nat) (A:An) (s:Sy) (most:Int) (StA:Set_→Goroutine→World→Prop) (c:Frame) (cs:List Frame):Prop:=
 ∀ γ x y v' w' O',(x=.int .i64 (ordV s most)∧Hx A.v v')→VRel (LM m) γ x y→WRel (LM m) γ v' w'→Named O' γ→Acc A.O A.β A.v A.w O' γ v' w'→Co Tryz.prog true StA O' (G (c.finish y) cs) w'
variable {c:Frame} {cs:List Frame}
theorem ret_O (hm:∀ O g w,StA O g w→Stop O g w) (next:NextO m A s most StA c cs):WkR Tryz.prog (LM m) true Stop A (base 15) (c :: cs) (Ro A.v (ordV s most)):=
 WkR.leave bO Tryz.func15 tres_O (R:=fun x v=>x=.int .i64 (ordV s most)∧Hx A.v v) (fun a v h=>⟨_,leaveO h.2.1,rfl,h.2.2⟩) (fun γ x y v' w' O' h1 h2 h3 h4 h5=>(next γ x y v' w' O' h1 h2 h3 h4 h5).mono hm)
theorem or_wk (next:NextO m A s most (fun _ g w=>AtEnd_ Tryz.prog Post g w) c cs) :
 Wk Tryz.prog (LM m) true (ScrS Tryz.prog Post 1) A (base 15) (c :: cs) [.code bodyO] (fun a v=>∃ A' n cp B m' d,a=litO (.agg #[.slice A' n cp,.slice B m' d]) (.int .i64 most)∧RI v A' n s.ar∧RR true v B m' s.rs∧Hx A.v v):=by
 rw [bodyO_eq];refine Wk.seq (Wk.code (X m) (offs_scr 1) (okO _ (by simp)) bO bOn (Ψ:=Lo A.v s most) (Ρ:=fun _ _=>False) (fun a v τ d h=>h) (fun a v τ d h=>h) Ins.f (fun a v h hd=>?_) ?_ WkR.no)
 .obtain ⟨A',n,cp,B,m',d,rfl,h1,h2,h3⟩:=h;exact wO0 h3 h1 h2
 refine Wk.seq (Wk.code (X m) (offs_scr 1) (okO _ (by simp)) bO bOn (Ψ:=fun a v=>(sysOk s=true∧inB most 1 3=true)∧Lo A.v s most a v) (Ρ:=Ro A.v (ordV s most)) (fun a v τ d h=>h) (fun a v τ d h=>h) (fun a v τ d h=>h) (fun a v h hd=>wO1 h hd) (Wk.pure fun hok=>?_) (ret_O (fun _ _ _=>.inl) next));refine Wk.seq (Wk.seq (callO3 (StA:=ScrS Tryz.prog Post 0) (offs_scr 0) (offs_scr 1) rfl scrS_mono ?_));refine Wk.code (X m) (offs_scr 0) (okO _ (by simp)) bO bOn (Ψ:=fun a v=>(ansF true s).isSome=false∧Lo A.v s most a v) (Ρ:=Ro A.v (ordV s most)) (fun a v τ d h=>h) (fun a v τ d h=>h) (fun a v τ d h=>h) (fun a v h hd=>wO4 hok.1 hok.2 h hd) (Wk.pure fun h1=>?_) (ret_O (fun _ _ _=>.inl) next);refine Wk.seq (Wk.seq (callO6 (StA:=fun _ g w=>AtEnd_ Tryz.prog Post g w) offs_end (offs_scr 0) rfl (fun _ _ _=>.inl) ?_));refine Wk.code (X m) offs_end (okO _ (by simp)) bO bOn (Ψ:=fun a v=>(ansF false s).isSome=false∧Lo A.v s most a v) (Ρ:=Ro A.v (ordV s most)) (fun a v τ d h=>h) (fun a v τ d h=>h) (fun a v τ d h=>h) (fun a v h hd=>wO7 hok.1 hok.2 h1 h hd) (Wk.pure fun h2=>?_) (ret_O (fun _ _ _ h=>h) next);exact Wk.code (X m) offs_end (okO _ (by simp)) bO bOn (Ψ:=fun _ _=>False) (Ρ:=Ro A.v (ordV s most)) (fun a v τ d h=>h) Ins.f (fun a v τ d h=>h) (fun a v h hd=>wOZ hok.1 hok.2 h1 h2 h hd) (fun γ ag a v w O hp=>hp.elim) (ret_O (fun _ _ _ h=>h) next)
end
end Go.Proofs.YtdlgjhngndpgoaaGreat
namespace Go.Proofs.YtdlgjhngndpgoaaGreat
open Go.Conc
section
variable {P:Program} {L:Lim} {Stop:Set_→Goroutine→World→Prop} {A:An} {b:Frame} {Φ:Act→World→Prop} {Post:Value→World→Prop}
theorem stepG_done {fn:Func} {a:Act} {todo:List Item} {v:Value} {w:World} (hn:b.kind=.normal) (hi:P.inits.idxOf? b.fn=none) (hd:a.defers=[]) (hf:P.funcs[b.fn]?=some fn) (hr:∀ u es,(results fn a.tmps).runT P u es=(.ok v u,es)) :
 stepG P true (G { b.at a todo with mode:=.returning } []) w=.ended (.done v) w #[]:=by
 have hh:=hr w #[];simp only [G,stepG,unwind,Frame.at,hd,hf,hh,doReturn,hn,GStep.after,seen_nil,hi,Bool.not_true,Bool.false_eq_true,if_false]
 rfl
theorem WkR.done {fn:Func} (hb:b.kind=.normal) (hi:P.inits.idxOf? b.fn=none) (hf:P.funcs[b.fn]?=some fn) (hT:TmpRes fn) (hStop:∀ O g w,AtEnd_ P Post g w→Stop O g w) {R:Value→World→Prop} (hR:∀ a v,Φ a v→∃ x,(∀ u,(results fn a.tmps).run P u=.ok x u)∧R x v)
 (post:∀ γ x y v w O,R x v→VRel L γ x y→WRel L γ v w→Named O γ→Acc A.O A.β A.v A.w O γ v w→Post y w):WkR P L true Stop A b [] Φ:=by
 intro γ ag a v w O todo hp k2 k3 k4 k5 k6 k7;obtain ⟨x,hx,hq⟩:=hR _ _ hp;obtain ⟨y,hy⟩:=tmpRes_run (P:=P) hT a.tmps;refine .stop fun w1 hr1=>hStop _ _ _ ⟨rfl,y,stepG_done hb hi k3 hf hy,?_⟩;have hW:=k5.ry k6 hr1;have hxy:VRel L γ x y:=by
  have hr:=(rel_results (P:=P) (L:=L) fn k4).run (hW.re (nextT w1) 0) (agree_next v w1);have e2:(results fn a.tmps).run P w1=.ok y w1:=by
   have:=hy w1 #[];rw [Sem.runT_eq] at this;exact (Prod.mk.inj this).1
  rw [hx] at hr;obtain ⟨δ,y2,w3,q1,q2,q3,q4⟩:=hr;rw [e2] at q1;cases q1;refine VRel.mono (fun k z e=>?_) q3;rcases q2.new k z e with e | ⟨_,e2⟩
  .exact e
  .obtain ⟨o,p,h1,_⟩:=q2.rel.blk k z e;have:=lt_of_heap h1;omega
 exact post γ x y v w1 O hq hxy hW k6 (k7.rely hr1)
end
end Go.Proofs.YtdlgjhngndpgoaaGreat
namespace Go.Proofs.YtdlgjhngndpgoaaGreat
open Go.Conc Go.RowKit
section
variable {L:Lim} {β γ:Bl}
theorem VRel.uniq (hid:∀ k x,k < L.m→β k=some x→x=k) {u y:Value} (h:VRel L β u y):∀ {z:Value},VRel L β u z→y=z:=by
 have arr:∀ {us bs cs:Array Value},us.size=bs.size→us.size=cs.size→(∀ (i:Nat) (v w:Value),us[i]?=some v→bs[i]?=some w→∀ {z:Value},VRel L β v z→w=z) →
  (∀ (i:Nat) (v w:Value),us[i]?=some v→cs[i]?=some w→VRel L β v w)→bs=cs:=fun {us bs cs} h1 h2 ih k=>by
  refine Array.ext_getElem? fun i=>?_;cases hb:bs[i]? with
  | none=>
   have:cs.size≤i:=by rw [← h2,h1];simpa using hb
   simp [this]
  | some b=>
   have hi:i < bs.size:=(Array.getElem?_eq_some_iff.1 hb).1;have ha:us[i]?=some us[i]:=Array.getElem?_eq_getElem Zo;have hc:cs[i]?=some cs[i]:=Array.getElem?_eq_getElem Zo;rw [hc,ih i _ _ ha hb (k i _ _ ha hc)]
 have ora:∀ {a b c:Option Addr},OARel L β a b→OARel L β a c→b=c:=fun {a b c} h k=>by
  cases a with
  | none=>cases b<;>cases c<;>first | rfl | exact h.elim | exact k.elim
  | some a=>
   cases b with
   | none=>exact h.elim
   | some b=>
    cases c with
    | none=>exact k.elim
    | some c=>
     obtain ⟨h1,h2,h3,_⟩:=h;obtain ⟨k1,k2,k3,_⟩:=k;rw [h1] at k1;obtain ⟨bb,bo,bs⟩:=b;obtain ⟨cb,co,cs⟩:=c;simp only at h2 h3 k2 k3 k1;injection k1 with k1
     rw [k1,← h2,← h3,← k2,← k3]
 have orz:∀ {a:Addr} {b:Option Addr},a.block < L.m→OARel L β (some a) b→b=some a:=fun {a b} hm h=>by
  cases b with
  | none=>exact h.elim
  | some b=>
   obtain ⟨h1,h2,h3,_⟩:=h;have:=hid _ _ hm h1;obtain ⟨bb,bo,bs⟩:=b;obtain ⟨ab,ao,us⟩:=a;simp only at h2 h3 this;rw [this,h2,h3]
 induction h with
 | poison h=>exact fun k=>(pz_inv k).symm
 | bool b=>intro z k;generalize hx:Value.bool b=x at k;cases k<;>cases hx<;>rfl
 | int kd n=>intro z k;generalize hx:Value.int kd n=x at k;cases k<;>cases hx<;>rfl
 | string s=>intro z k;generalize hx:Value.string s=x at k;cases k<;>cases hx<;>rfl
 | @pointer a b h=>
  intro z k;generalize hx:Value.pointer a=x at k;cases k<;>cases hx
  rename_i k
  rw [ora h k]
 | @slice a b n c h=>
  intro z k;generalize hx:Value.slice a n c=x at k;cases k<;>cases hx
  .rename_i k
   rw [ora h k]
  .rename_i k
   rw [orz k h]
 | sliceZ a h=>
  intro z k;generalize hx:Value.slice (some a) 0 0=x at k;cases k<;>cases hx
  .rename_i k
   rw [orz h k]
  .rfl
 | map=>intro z k;generalize hx:Value.map none=x at k;cases k<;>cases hx<;>rfl
 | @chan r s h=>
  intro z k;generalize hx:Value.chan (some r)=x at k;cases k<;>cases hx
  rename_i k
  rw [h] at k;cases k;rfl
 | chan0=>intro z k;generalize hx:Value.chan none=x at k;cases k<;>cases hx<;>rfl
 | @func f us bs cs ds hf h1 h2 _ _ i3 i4=>
  intro z k;generalize hx:Value.func (.func f) us cs=x at k;cases k<;>cases hx
  congr 1
  .exact arr h1 (by assumption) i3 (by assumption)
  .exact arr h2 (by assumption) i4 (by assumption)
 | nilFunc=>intro z k;generalize hx:Value.nilFunc=x at k;cases k<;>cases hx<;>rfl
 | @iface t v w ht h ih=>
  intro z k;generalize hx:Value.iface t v=x at k;cases k<;>cases hx
  rename_i k1 k2
  rw [ih k2]
 | nilIface=>intro z k;generalize hx:Value.nilIface=x at k;cases k<;>cases hx<;>rfl
 | @agg us bs h1 h ih=>
  intro z k;generalize hx:Value.agg us=x at k;cases k<;>cases hx
  rename_i k1 k2
  rw [arr h1 k1 ih k2]
 | @tuple us bs h1 h ih=>
  intro z k;generalize hx:Value.tuple us=x at k;cases k<;>cases hx
  rename_i k1 k2
  rw [arr h1 k1 ih k2]
theorem VsRel.uniq (hid:∀ k x,k < L.m→β k=some x→x=k) {us ys zs:Array Value} (h:VsRel L β us ys) (k:VsRel L β us zs):ys=zs:=by
 have:=VRel.uniq hid (VRel.agg h.1 h.2) (VRel.agg k.1 k.2);injection this
end
def isCells:Option Obj→Bool
 | some (.cells _ _ _)=>true
 | _=>false
def bet0 (W:World):Bl:=fun k=>if isCells W.heap[k]? then some k else none
theorem bet0_inv {W:World} {k x:Nat} (h:bet0 W k=some x):x=k∧∃ d T f,W.heap[k]?=some (.cells d T f):=by
 unfold bet0 at h;split at h
 .rename_i hc
  cases h;refine ⟨rfl,?_⟩;cases hk:W.heap[k]? with
  | none=>rw [hk] at hc;cases hc
  | some o=>
   rw [hk] at hc;cases o with
   | cells d T f=>exact ⟨d,T,f,rfl⟩
   | _=>cases hc
 .cases h
theorem bet0_of {W:World} {k:Nat} {d:Array Value} {T:TypeId} {f:Nat×Nat} (h:W.heap[k]?=some (.cells d T f)):bet0 W k=some k:=by
 unfold bet0;rw [h];rfl
def padW (W:World) (m:Nat):World:={ W with heap:=W.heap++Array.replicate m default }
theorem padW_at {W:World} {m k:Nat} (h:k < W.heap.size):(padW W m).heap[k]?=W.heap[k]?:=by
 show (W.heap++_)[k]?=_;rw [Array.getElem?_append_left h]
theorem padW_size (W:World) (m:Nat):(padW W m).heap.size=W.heap.size+m:=by simp [padW]
theorem ghost_start (L:Lim) (hg:L.g=0) (W:World):∃ v:World,v.heap.size=W.heap.size+L.m∧WRel L (bet0 W) v W∧∀ (p:Addr) (x:Value),W.cell? p=some x→VRel L (bet0 W) x x→v.cell? p=some x:=by
 obtain ⟨v,h1,_,_,_,_,h6,h7⟩:=rebuild (L:=L) (γ:=bet0 W) (padW W L.m) W (fun k x e=>by
  obtain ⟨rfl,d,T,f,h⟩:=bet0_inv e;have:=(Array.getElem?_eq_some_iff.1 h).1;exact ⟨by rw [padW_size];omega,d,T,f,h⟩) (fun k l x e1 e2=>by rw [← (bet0_inv e1).1,← (bet0_inv e2).1]) (by rw [hg];exact Nat.zero_le _) (by rw [hg];exact Nat.zero_le _)
 refine ⟨v,by rw [h1,padW_size],h6,fun p x hx hr=>?_⟩;obtain ⟨c,T,f,e,hs,hc⟩:=cell_isC hx;have hlt:=(Array.getElem?_eq_some_iff.1 e).1;obtain ⟨c',k1,k2,k3⟩:=h7 p.block p.block c T f (bet0_of e) e;have:=k3 p.off x x (by rw [padW_at hlt,e];exact hc) hc hr;unfold World.cell?;rw [k1];simp only [hs,Option.isSome_none,Bool.false_eq_true,if_false];exact this
theorem real_end {L:Lim} {W v v' w:World} {γ:Bl} {O:Set_} (hv:L.m≤v.heap.size) (hW:WRel L (bet0 W) v W) (hW':WRel L γ v' w) (hH:Hx v v') (hA:Acc (fun x=>x < W.heap.size) (bet0 W) v W O γ v' w):Below W.heap.size W w:=by
 refine ⟨hA.os,hA.tape,hA.output,hA.gw,fun k hk=>?_⟩;have hid:∀ k x,k < L.m→γ k=some x→x=k:=fun k x hm e=>by
  rcases hA.new k x e with h | ⟨_,h⟩
  .exact (bet0_inv h).1
  .omega
 cases hb:bet0 W k with
 | none=>
  refine hA.keep k hk hk fun l e=>?_;obtain ⟨rfl,d,T,f,h⟩:=bet0_inv e;rw [bet0_of h] at hb;cases hb
 | some x=>
  obtain ⟨rfl,d,T,f,h⟩:=bet0_inv hb;obtain ⟨o,p,h1,h2,h3⟩:=hW.blk _ _ hb;rw [h] at h2;cases h2;cases h3 with
  | cells _ _ h3=>
   rename_i c
   obtain ⟨o',p',k1,k2,k3⟩:=hW'.blk _ _ (hA.le _ _ hb);rw [hH.2 x (lt_of_heap h1),h1] at k1;cases k1;cases k3 with
   | cells _ _ k3=>
    rename_i d'
    rw [k2,h];rw [VsRel.uniq hid k3 (h3.mono hA.le)]
end Go.Proofs.YtdlgjhngndpgoaaGreat
namespace Go.Proofs.YtdlgjhngndpgoaaGreat
open Go.ChangeShapes Go.WideShapes Go.ChangeAt Go.RowKit Go.Joins Go.Deep
section
variable {H:Type} {enc:TypeId×Value→H} {P:Program} {w:World} {base:Nat} {spare:Nat→Bool} {held:Bool}
theorem open_slice_fields {t e:TypeId} {fs:Array Field} {fuel:Nat} {cs:List Value} {x:DataW H×List MemPlace} (ht:P.underlying t=some (.slice e)) (he:P.underlying e=some (.struct fs))
 (hone:oneCellFields P fs=true) (hC:P.cellsOf e=fs.size) (h:DataW.trod enc P w base spare held fuel t cs=some x) :
 (cs=[.slice none 0 0]∧x=(.nil,[])) ∨
 ∃ (a:Addr) (len cap m:Nat) (D:Nat→DataW H) (Pl:Nat→List MemPlace),cs=[.slice (some a) len cap]∧base≤a.block∧len≤cap∧cap≤maxLen∧m=(if spare a.block then cap else len) ∧
  x=(.slice ((List.range len).map D) ((List.range (m - len)).map fun j=>D (len+j)),MemPlace.row a (m * fs.size)++(List.range m).flatMap Pl) ∧
  ∀ i,i < m→∃ (ys:List (DataW H×List MemPlace)) (n:Nat),D i=.agg (ys.map (·.1))∧Pl i=ys.flatMap (·.2)∧ys.length=fs.size ∧
   ∀ (j:Nat) (f:Field),fs[j]?=some f→∃ (v:Value) (y:DataW H×List MemPlace),w.cell? (a.add (i * fs.size+j))=some v∧ys[j]?=some y∧DataW.trod enc P w base spare held n f.type [v]=some y:=by
 rcases open_slice ht h with h0 | ⟨a,len,cap,m,n,D,Pl,hcs,hb,hl,hm,hmm,hx,hi⟩
 .exact .inl h0
 .refine .inr ⟨a,len,cap,m,D,Pl,hcs,hb,hl,hm,hmm,by rw [hC] at hx;exact hx,fun i him=>?_⟩;obtain ⟨cs',hc,ht'⟩:=hi i him;rw [hC] at hc;obtain ⟨ys,n',hn',hy,hlen,hyl,hf⟩:=DataW.trod_struct he ht';obtain ⟨_,hcl,hat⟩:=World.cells?_some hc;simp only [Prod.mk.injEq] at hy;refine ⟨ys,n',hy.1,hy.2,hyl,fun j f hj=>?_⟩;obtain ⟨ho,hk⟩:=hone_of hone j f hj;have hjl:j < fs.size:=(Array.getElem?_eq_some_iff.1 hj).1;have hcell:=hat j hjl;have hv:cs'[j]?=some (cs'[j]'Zo):=List.getElem?_eq_getElem Zo;have h1:=hf j f hj;rw [ho,hk] at h1;have hone':(cs'.drop j).take 1=[cs'[j]'Zo]:=by
   rw [List.drop_eq_getElem_cons Zo]
   rfl
  rw [hone'] at h1;have hys:ys[j]?=some (ys[j]'Zo):=List.getElem?_eq_getElem Zo;refine ⟨_,_,?_,hys,h1.trans hys⟩;rw [← Go.Deep.add_add,hcell,hv]
end

