/- -/
import Derived.Test.YtiblbnkpjmmjaaaGreatQ51
set_option maxRecDepth 100000
set_option maxHeartbeats 16000000
set_option linter.all false
namespace Go.Proofs.YtiblbnkpjmmjaaaGreat
open Go.Conc
section
variable {P:Program} {L:Lim} {Stop:Set_→Goroutine→World→Prop} {A:An} {b:Frame} {Φ:Act→World→Prop} {Post:Value→World→Prop}
theorem stepG_done {fn:Func} {a:Act} {todo:List Item} {v:Value} {w:World} (hn:b.kind=.normal) (hi:P.inits.idxOf? b.fn=none) (hd:a.defers=[]) (hf:P.funcs[b.fn]?=some fn) (hr:∀ u es,(results fn a.tmps).runT P u es=(.ok v u,es)) :
 stepG P true (G { b.at a todo with mode:=.returning } []) w=.ended (.done v) w #[]:=by
 have hh:=hr w #[];simp only [G,stepG,unwind,Frame.at,hd,hf,hh,doReturn,hn,GStep.after,seen_nil,hi,Bool.not_true,Bool.false_eq_true,if_false]
 rfl
theorem WkR.done {fn:Func} (hb:b.kind=.normal) (hi:P.inits.idxOf? b.fn=none) (hf:P.funcs[b.fn]?=some fn) (hT:TmpRes fn) (hStop:∀ O g w,AtEnd_ P Post g w→Stop O g w) {R:Value→World→Prop} (hR:∀ a v,Φ a v→∃ x,(∀ u,(results fn a.tmps).run P u=.ok x u)∧R x v)
 (post:∀ γ x y v w O,R x v→VRel L γ x y→WRel L γ v w→Named O γ→Acc A.O A.β A.v A.w O γ v w→Post y w):WkR P L true Stop A b [] Φ:=by
 intro γ ag a v w O todo hp k2 k3 k4 k5 k6 k7;obtain ⟨x,hx,hq⟩:=hR _ _ hp;obtain ⟨y,hy⟩:=tmpRes_run (P:=P) hT a.tmps;refine .stop fun w1 hr1=>hStop _ _ _ ⟨rfl,y,stepG_done hb hi k3 hf hy,?_⟩;have hW:=k5.ry k6 hr1;have hxy:VRel L γ x y:=by
  have hr:=(rel_results (P:=P) (L:=L) fn k4).run (hW.re (nextT w1) 0) (agree_next v w1);have e2:(results fn a.tmps).run P w1=.ok y w1:=by
   have:=hy w1 #[];rw [Sem.runT_eq] at this;exact (Prod.mk.inj this).1
  rw [hx] at hr;obtain ⟨δ,y2,w3,q1,q2,q3,q4⟩:=hr;rw [e2] at q1;cases q1;refine VRel.mono (fun k z e=>?_) q3;rcases q2.new k z e with e | ⟨_,e2⟩
  .exact e
  .obtain ⟨o,p,h1,_⟩:=q2.rel.blk k z e;have:=lt_of_heap h1;omega
 exact post γ x y v w1 O hq hxy hW k6 (k7.rely hr1)
end
end Go.Proofs.YtiblbnkpjmmjaaaGreat
namespace Go.Proofs.YtiblbnkpjmmjaaaGreat
open Go.Conc Go.ChangeShapes Go.WideShapes Go.ChangeAt Go.RowKit
set_option maxRecDepth 100000
noncomputable def bodyY:Code:=Tryz.f3.body.getD .skip
noncomputable def y0:Code:=match bodyY with | .seq r _=>r | _=>.skip
noncomputable def yA:Code:=match bodyY with | .seq _ (.seq r _)=>r | _=>.skip
noncomputable def y3:Code:=match bodyY with | .seq _ (.seq _ (.seq r _))=>r | _=>.skip
noncomputable def y4:Code:=match bodyY with | .seq _ (.seq _ (.seq _ (.seq r _)))=>r | _=>.skip
noncomputable def y5:Code:=match bodyY with | .seq _ (.seq _ (.seq _ (.seq _ (.seq r _))))=>r | _=>.skip
noncomputable def y6:Code:=match bodyY with | .seq _ (.seq _ (.seq _ (.seq _ (.seq _ (.seq r _)))))=>r | _=>.skip
noncomputable def y7:Code:=match bodyY with | .seq _ (.seq _ (.seq _ (.seq _ (.seq _ (.seq _ (.seq r _))))))=>r | _=>.skip
noncomputable def y8:Code:=match bodyY with | .seq _ (.seq _ (.seq _ (.seq _ (.seq _ (.seq _ (.seq _ (.seq r _)))))))=>r | _=>.skip
noncomputable def y9:Code:=match bodyY with | .seq _ (.seq _ (.seq _ (.seq _ (.seq _ (.seq _ (.seq _ (.seq _ (.seq r _))))))))=>r | _=>.skip
noncomputable def yE:Code:=match bodyY with | .seq _ (.seq _ (.seq _ (.seq _ (.seq _ (.seq _ (.seq _ (.seq _ (.seq _ (.seq r _)))))))))=>r | _=>.skip
noncomputable def yL:Code:=match bodyY with | .seq _ (.seq _ (.seq _ (.seq _ (.seq _ (.seq _ (.seq _ (.seq _ (.seq _ (.seq _ (.seq r _))))))))))=>r | _=>.skip
noncomputable def y17:Code:=match bodyY with | .seq _ (.seq _ (.seq _ (.seq _ (.seq _ (.seq _ (.seq _ (.seq _ (.seq _ (.seq _ (.seq _ (.seq r _)))))))))))=>r | _=>.skip
noncomputable def yC:Code:=match bodyY with | .seq _ (.seq _ (.seq _ (.seq _ (.seq _ (.seq _ (.seq _ (.seq _ (.seq _ (.seq _ (.seq _ (.seq _ r)))))))))))=>r | _=>.skip
theorem bodyY_eq:bodyY=.seq y0 (.seq yA (.seq y3 (.seq y4 (.seq y5 (.seq y6 (.seq y7 (.seq y8 (.seq y9 (.seq yE (.seq yL (.seq y17 yC))))))))))):=by simp only [y0,yA,y3,y4,y5,y6,y7,y8,y9,yE,yL,y17,yC,bodyY,Tryz.f3,Option.getD_some]
def gv (T:Array Value) (i:Nat):Value:=(T[i]?).getD undef
theorem gv_of {T:Array Value} {i:Nat} {v:Value} (h:T[i]?=some v):gv T i=v:=by unfold gv;rw [h];rfl
theorem gv_row {T:Array Value} {n:Nat} (h:T.size=n):T.toList=(List.range n).map (gv T):=by
 refine List.ext_getElem? fun i=>?_;rw [List.getElem?_map,Array.getElem?_toList];rcases Nat.lt_or_ge i n with hi | hi
 .rw [List.getElem?_range hi,Option.map_some];unfold gv;rw [Array.getElem?_eq_getElem Zo]
  rfl
 .rw [List.getElem?_eq_none (by simpa using hi),Array.getElem?_eq_none Zo]
  rfl
theorem lit148 {T:Array Value} (h:T.size=148):T=#[gv T 0,gv T 1,gv T 2,gv T 3,gv T 4,gv T 5,gv T 6,gv T 7,gv T 8,gv T 9,gv T 10,gv T 11,gv T 12,gv T 13,gv T 14,gv T 15,gv T 16,gv T 17,gv T 18,gv T 19,gv T 20,gv T 21,gv T 22,gv T 23,gv T 24,gv T 25,gv T 26,gv T 27,gv T 28,gv T 29,gv T 30,gv T 31,gv T 32,gv T 33,gv T 34,gv T 35,gv T 36,gv T 37,gv T 38,gv T 39,gv T 40,gv T 41,gv T 42,gv T 43,gv T 44,gv T 45,gv T 46,gv T 47,gv T 48,gv T 49,gv T 50,gv T 51,gv T 52,gv T 53,gv T 54,gv T 55,gv T 56,gv T 57,gv T 58,gv T 59,gv T 60,gv T 61,gv T 62,gv T 63,gv T 64,gv T 65,gv T 66,gv T 67,gv T 68,gv T 69,gv T 70,gv T 71,gv T 72,gv T 73,gv T 74,gv T 75,gv T 76,gv T 77,gv T 78,gv T 79,gv T 80,gv T 81,gv T 82,gv T 83,gv T 84,gv T 85,gv T 86,gv T 87,gv T 88,gv T 89,gv T 90,gv T 91,gv T 92,gv T 93,gv T 94,gv T 95,gv T 96,gv T 97,gv T 98,gv T 99,gv T 100,gv T 101,gv T 102,gv T 103,gv T 104,gv T 105,gv T 106,gv T 107,gv T 108,gv T 109,gv T 110,gv T 111,gv T 112,gv T 113,gv T 114,gv T 115,gv T 116,gv T 117,gv T 118,gv T 119,gv T 120,gv T 121,gv T 122,gv T 123,gv T 124,gv T 125,gv T 126,gv T 127,gv T 128,gv T 129,gv T 130,gv T 131,gv T 132,gv T 133,gv T 134,gv T 135,gv T 136,gv T 137,gv T 138,gv T 139,gv T 140,gv T 141,gv T 142,gv T 143,gv T 144,gv T 145,gv T 146,gv T 147]:=Array.ext' ((gv_row h).trans rfl)
def litY (x0:Value):Act:={ tmps:=#[x0,undef,undef,undef,undef,undef,undef,undef,undef,undef,undef,undef,undef,undef,undef,undef,undef,undef,undef,undef,undef,undef,undef,undef,undef,undef,undef,undef,undef,undef,undef,undef,undef,undef,undef,undef,undef,undef,undef,undef,undef,undef,undef,undef,undef,undef,undef,undef,undef,undef,undef,undef,undef,undef,undef,undef,undef,undef,undef,undef,undef,undef,undef,undef,undef,undef,undef,undef,undef,undef,undef,undef,undef,undef,undef,undef,undef,undef,undef,undef,undef,undef,undef,undef,undef,undef,undef,undef,undef,undef,undef,undef,undef,undef,undef,undef,undef,undef,undef,undef,undef,undef,undef,undef,undef,undef,undef,undef,undef,undef,undef,undef,undef,undef,undef,undef,undef,undef,undef,undef,undef,undef,undef,undef,undef,undef,undef,undef,undef,undef,undef,undef,undef,undef,undef,undef,undef,undef,undef,undef,undef,undef,undef,undef,undef,undef,undef,undef],defers:=[] }
theorem litY_eq (x:Value):(litY x).tmps=#[x]++Array.replicate 147 undef:=by
 apply Array.ext';rw [Array.toList_append,Array.toList_replicate]
 rfl
theorem wpS_cons {P:Program} {c:Code} {cs:List Code} {Q:Exit→Act→World→Prop} {a:Act} {w:World} (h:c.wp P (Exit.then (wpS P cs Q) Q) a w):wpS P (c :: cs) Q a w:=h
theorem wpS_nil {P:Program} {Q:Exit→Act→World→Prop} {a:Act} {w:World} (h:Q .normal a w):wpS P [] Q a w:=h
theorem srch_some {T:List Int→Prop} {ls hs:List Int}:∀ {k:Nat} {xs o:List Int},Btw xs ls hs→srch T ls hs k xs=some o→T o∧Btw o ls hs
 | 0,xs,o,_,h=>by rw [srch] at h;cases h
 | k+1,xs,o,hb,h=>by
  by_cases ht:T xs
  .rw [srch_yes ht] at h;cases h;exact ⟨ht,hb⟩
  .cases e:up xs ls hs with
   | mk ys b=>
    cases b with
    | true=>rw [srch_up ht e] at h;exact srch_some (up_next hb e).1 h
    | false=>rw [srch_end ht e] at h;cases h
theorem gsR_some {T:List Int→Prop}:∀ {k:Nat} {xs o:List Int},gsR T k xs=some o→T o
 | 0,xs,o,h=>by cases h
 | k+1,xs,o,h=>by
  unfold gsR at h;split at h
  .rename_i ht;cases h;exact ht
  .split at h
   .exact gsR_some h
   .cases h
theorem btw_rep {m:Int}:∀ {n:Nat} {xs:List Int},Btw xs (List.replicate n 0) (List.replicate n m)→xs.length=n∧∀ (j:Nat) (x:Int),xs[j]?=some x→x≤m
 | 0,xs,h=>by
  cases xs with
  | nil=>exact ⟨rfl,fun j x e=>by simp at e⟩
  | cons _ _=>exact h.elim
 | n+1,xs,h=>by
  cases xs with
  | nil=>exact h.elim
  | cons y ys=>
   rw [List.replicate_succ,List.replicate_succ] at h;obtain ⟨k1,k2⟩:=btw_rep h.2;refine ⟨by simp [k1],fun j x e=>?_⟩;cases j with
   | zero=>simp at e;subst e;exact h.1.2
   | succ j=>exact k2 j x (by simpa using e)
theorem fwO_good {rs:List Ru} (hs:SysP ⟨[2,1,0],rs⟩) {o:Option (List Int)} (h:fwO ⟨[2,1,0],rs⟩ 2=o) (h2:o.isSome=true) :
 kboOrients ⟨[2,1,0],rs⟩ (fwW ⟨[2,1,0],rs⟩ 2)=true∧(fwW ⟨[2,1,0],rs⟩ 2).var=1∧(fwW ⟨[2,1,0],rs⟩ 2).sym.length=3∧∀ (j:Nat) (x:Int),(fwW ⟨[2,1,0],rs⟩ 2).sym[j]?=some x→x≤2:=by
 obtain ⟨sym,rfl⟩:=some_of h2;have hc:sysOk ⟨[2,1,0],rs⟩=true∧0≤triW [2,1,0] 2:=by
  by_cases hc:sysOk ⟨[2,1,0],rs⟩=true∧0≤triW [2,1,0] 2
  .exact hc
  .rw [fwO_no hc] at h;cases h
 have e:fwW ⟨[2,1,0],rs⟩ 2=⟨1,sym,(rkO ⟨[2,1,0],rs⟩ sym 3).getD []⟩:=by unfold fwW;rw [h];rfl
 unfold fwO at h;rw [if_pos hc] at h;obtain ⟨k1,k2⟩:=srch_some (zero_btw (by decide) _) h;obtain ⟨k3,k4⟩:=btw_rep k2;have k1:(rkO ⟨[2,1,0],rs⟩ sym 3).isSome=true:=k1;obtain ⟨rk,hr⟩:=some_of k1;have k5:kboOrients ⟨[2,1,0],rs⟩ ⟨1,sym,rk⟩=true:=gsR_some hr;rw [e,hr];exact ⟨k5,rfl,k3,k4⟩
theorem fpO_good {rs:List Ru} (hs:SysP ⟨[2,1,0],rs⟩) {o:Option (List Int)} (h:fpoO ⟨[2,1,0],rs⟩ 2=o) (h2:o.isSome=true):polyOrients ⟨[2,1,0],rs⟩ (fpoV ⟨[2,1,0],rs⟩ 2)=true:=by
 obtain ⟨xs,rfl⟩:=some_of h2;have hc:sysOk ⟨[2,1,0],rs⟩=true∧0≤triP [2,1,0] 2:=by
  by_cases hc:sysOk ⟨[2,1,0],rs⟩=true∧0≤triP [2,1,0] 2
  .exact hc
  .rw [fpoO_no hc] at h;cases h
 have e:fpoV ⟨[2,1,0],rs⟩ 2=polysOf [2,1,0] xs:=by unfold fpoV;rw [h];rfl
 unfold fpoO at h;rw [if_pos hc] at h;have hb:Btw (lowL [2,1,0]) (lowL [2,1,0]) (List.replicate (offs [2,1,0]) 2):=by
  simp [lowL,offs,Btw,List.replicate]
 obtain ⟨k1,k2⟩:=srch_some hb h;rw [e,(orients_at (s:=⟨[2,1,0],rs⟩) hc.1 ⟨by decide,by decide⟩ k2).2];exact k1
theorem tri_w:triW [2,1,0] 2=162:=by decide
theorem tri_p:triP [2,1,0] 2=216:=by decide
theorem c_sKbB {v0 v1:Value} {s:Sy} {W:Wt} {b:Bool} {w:World} (hb:kboOrients s W=b) (h0:RdSyC w v0 s) (h1:RdWt w v1 W) :
 Calls Tryz.prog 12 #[v0,v1] w fun e w'=>e=.returned (.bool b)∧Ext w w':=by subst hb;exact c_sKboOrients h0 h1
theorem c_sPoB {v0 v1:Value} {s:Sy} {ps:List Pl} {b:Bool} {w:World} (hb:polyOrients s ps=b) (h0:RdSyC w v0 s) (h1:RdPs w v1 ps) :
 Calls Tryz.prog 13 #[v0,v1] w fun e w'=>e=.returned (.bool b)∧Ext w w':=by subst hb;exact c_sPolyOrients h0 h1
theorem c_triB {v:Value} {x y:Int} {w:World} (hx:triW [2,1,0] 2=x) (hy:triP [2,1,0] 2=y) (h0:RdSig w v [2,1,0]) :
 Calls Tryz.prog 11 #[v,.int .i64 2] w fun e w'=>e=.returned (.tuple #[.int .i64 x,.int .i64 y])∧Ext w w':=by subst hx hy;exact c_iTriesFor h0
def Ly (v0:World) (s:Sy) (a:Act) (v:World):Prop:=a.tmps.size=148∧Hx v0 v∧(SysP s∧s.ar=[2,1,0]) ∧
 (a.tmps[6]?=some (.bool (fwO s 2).isSome)∧a.tmps[8]?=some (.bool (fpoO s 2).isSome)∧a.tmps[10]?=some (.bool (ansF true s).isSome)∧a.tmps[12]?=some (.bool (ansF false s).isSome)) ∧
 ∃ q A n c B m d,a.tmps[4]?=some (Value.pointer (some ⟨q,0,none⟩))∧v.cell? ⟨q,0,none⟩=some (.slice A n c)∧v.cell? ⟨q,1,none⟩=some (.slice B m d)∧RI v A n s.ar∧RR true v B m s.rs
def Ry_ (v0:World) (a:Act) (v:World):Prop:=a.tmps.size=148∧a.tmps[2]?=some (.bool true)∧Hx v0 v
theorem mq52 {p:Prop} (h:p:=by simp only [intOf];omega):p:=h
theorem chunkY {v0 w:World} {n0:Nat} {x:Value} (hH:Hx v0 w) (h0:RawBy v0 x n0) :
 wpS Tryz.prog [y0,yA,y3,y4,y5,y6,y7,y8,y9,yE,yL] (fun e a' v'=>(e=.normal∧∃ rs,Ly v0 ⟨[2,1,0],rs⟩ a' v')∨(e=.ret∧Ry_ v0 a' v')) (litY x) w:=by
 have H0:=Zh (show RawBy w x n0 from RawBy.ext (w:={ w with heap:=v0.heap }) h0 hH.to);have HH:=Zh hH;obtain ⟨bb,hbb⟩:∃ bb,decide (4096 < n0)=bb:=⟨_,rfl⟩;have HBB:=Zh hbb;clear h0 hbb hH;refine wpS_cons ?_;simp only [y0,bodyY,Tryz.f3,Option.getD_some,litY];go_wp2_with fail;refine wpS_cons ?_;simp only [yA,bodyY,Tryz.f3,Option.getD_some];go_wp2_with fail
 (with_reducible refine (c_big HBB.out H0.out).mono ?_);rintro e w1 ⟨rfl,hE1⟩;cases bb with
 | true=>
  go_wp2_with fail;exact .inr ⟨trivial,rfl,rfl,HH.out.trans (Hx.ext hE1)⟩
 | false=>
  have hx:n0≤4096:=by have:=HBB.out;simpa using this
  have H1:=Zh (H0.out.ext hE1);go_wp2_with fail;refine wpS_cons ?_;simp only [y3,bodyY,Tryz.f3,Option.getD_some];go_wp2_with fail
  (with_reducible refine (c_roll H1.out hx).mono ?_);rintro e w2 ⟨g,rfl,hD2,hg2,hE2⟩;have hE02:Ext w w2:=Ext.trans hE1 hE2;have hgw:w.heap.size≤g:=by have:=hE1.size;omega
  go_wp2_with fail;refine wpS_cons ?_;simp only [y4,bodyY,Tryz.f3,Option.getD_some];go_wp2_with fail
  (with_reducible refine (c_w9System hD2).mono ?_);rintro e w3 ⟨AS,cS,B,m,d,rs,rfl,hS3,hR3,hl3,hG3,hD3,hO3⟩;have hs3:=hO3.size;have HY4:=Zh (SysAt.mk' (c:=cS) (d:=d) (v:=.bool true) hS3 hR3 hs3);have HSY:=Zh (show SysP ⟨[2,1,0],rs⟩ from good_sys hl3 hG3);have hE03:Ext w w3:=hO3.ext hE02 hgw;obtain ⟨w4,hw4⟩:∃ w4,w4=w3.alloc (.cells #[.slice AS 3 cS,.slice B m d] 32):=⟨_,rfl⟩;rw [← hw4] at HY4;have hE34:Ext w3 w4:=by rw [hw4];exact extX
  have hE04:=Ext.trans hE03 hE34;clear hS3 hR3 hD3 hO3 hG3;go_wp2_with fail;rw [← hw4];clear hw4;obtain ⟨p,hp⟩:∃ p,p=w3.heap.size:=⟨_,rfl⟩;rw [← hp] at HY4 ⊢;clear hp
  -- the four answers
  obtain ⟨o3,ho3⟩:∃ o,fwO ⟨[2,1,0],rs⟩ 2=o:=⟨_,rfl⟩;obtain ⟨o4,ho4⟩:∃ o,fpoO ⟨[2,1,0],rs⟩ 2=o:=⟨_,rfl⟩;obtain ⟨b3,hb3⟩:∃ b,o3.isSome=b:=⟨_,rfl⟩;obtain ⟨b4,hb4⟩:∃ b,o4.isSome=b:=⟨_,rfl⟩;obtain ⟨o1,ho1⟩:∃ o,ansF true ⟨[2,1,0],rs⟩=o:=⟨_,rfl⟩;obtain ⟨o2,ho2⟩:∃ o,ansF false ⟨[2,1,0],rs⟩=o:=⟨_,rfl⟩;obtain ⟨b1,hb1⟩:∃ b,o1.isSome=b:=⟨_,rfl⟩;obtain ⟨b2,hb2⟩:∃ b,o2.isSome=b:=⟨_,rfl⟩;obtain ⟨W3,hW3⟩:∃ W,fwW ⟨[2,1,0],rs⟩ 2=W:=⟨_,rfl⟩;obtain ⟨P4,hP4⟩:∃ P,fpoV ⟨[2,1,0],rs⟩ 2=P:=⟨_,rfl⟩;have HW3:=Zh hW3;have HP4:=Zh hP4;have HB3:=Zh (show (fwO ⟨[2,1,0],rs⟩ 2).isSome=b3 by rw [ho3];exact hb3);have HB4:=Zh (show (fpoO ⟨[2,1,0],rs⟩ 2).isSome=b4 by rw [ho4];exact hb4);have HO1:=Zh ho1;have HO2:=Zh ho2;have HB1:=Zh hb1;have HB2:=Zh hb2;have HG3:=Zh (show b3=true→kboOrients ⟨[2,1,0],rs⟩ W3=true∧W3.var=1∧W3.sym.length=3∧∀ (j:Nat) (x:Int),W3.sym[j]?=some x→x≤2 from fun e=>by rw [← hW3];exact fwO_good HSY.out ho3 (hb3.trans e));have HG4:=Zh (show b4=true→polyOrients ⟨[2,1,0],rs⟩ P4=true from fun e=>by rw [← hP4];exact fpO_good HSY.out ho4 (hb4.trans e));clear hW3 hP4 ho3 ho4 hb3 hb4 ho1 ho2 hb1 hb2;have t0:=HY4.out.c0;have t1:=HY4.out.c1;refine wpS_cons ?_;simp only [y5,bodyY,Tryz.f3,Option.getD_some];go_wp2_with fail
  (with_reducible refine (c_iFirstWeights HW3.out HB3.out HY4.out.rd).mono ?_);rintro e w5 ⟨A5,n5,c5,B5,m5,d5,rfl,hA5,hB5,_,hE5⟩;have HA5:=Zh hA5.ri;have HB5:=Zh hB5.ri;have HY5:=Zh (HY4.out.ext hE5);obtain ⟨w6,hw6⟩:∃ w6,w6=w5.alloc (.cells #[.int .i64 W3.var,.slice A5 n5 c5,.slice B5 m5 d5] 35):=⟨_,rfl⟩;have hE56:Ext w5 w6:=by rw [hw6];exact extX
  have HW6:=Zh (show w6.cell? ⟨w5.heap.size,0,none⟩=some (.int .i64 W3.var)∧w6.cell? ⟨w5.heap.size,1,none⟩=some (.slice A5 n5 c5)∧w6.cell? ⟨w5.heap.size,2,none⟩=some (.slice B5 m5 d5) from by rw [hw6];exact ⟨by simp [go_sem],by simp [go_sem],by simp [go_sem]⟩);have HY6:=Zh (HY5.out.ext hE56);have HA6:=Zh (HA5.out.ext hE56);have HB6:=Zh (HB5.out.ext hE56);have hE06:=Ext.trans (Ext.trans hE04 hE5) hE56;clear hA5 hB5 t0 t1;go_wp2_with fail;rw [← hw6];obtain ⟨q5,hq5⟩:∃ q,q=w5.heap.size:=⟨_,rfl⟩;rw [← hq5] at HW6 ⊢;clear hw6 hq5;have t0:=HY6.out.c0;have t1:=HY6.out.c1;refine wpS_cons ?_;simp only [y6,bodyY,Tryz.f3,Option.getD_some];go_wp2_with fail
  (with_reducible refine (c_iFirstPolys HP4.out HB4.out HY6.out.rd).mono ?_);rintro e w7 ⟨A7,n7,c7,rfl,hO7,hE7⟩;have HP7:=Zh (OwQ.rp (OwD.q hO7));have HY7:=Zh (HY6.out.ext hE7);clear hO7 t0 t1;have t0:=HY7.out.c0;have t1:=HY7.out.c1;go_wp2_with fail;refine wpS_cons ?_;simp only [y7,bodyY,Tryz.f3,Option.getD_some];go_wp2_with fail
  (with_reducible refine (c_sFirstRank HO1.out HY7.out.rd).mono ?_);rintro e w8 ⟨A8,n8,c8,rfl,_,hE8⟩;rw [HB1.out];have HY8:=Zh (HY7.out.ext hE8);clear t0 t1;have t0:=HY8.out.c0;have t1:=HY8.out.c1;go_wp2_with fail;refine wpS_cons ?_;simp only [y8,bodyY,Tryz.f3,Option.getD_some];go_wp2_with fail
  (with_reducible refine (c_sFirstBags HO2.out HY8.out.rd).mono ?_);rintro e w9 ⟨A9,n9,c9,rfl,_,hE9⟩;rw [HB2.out];have HY9:=Zh (HY8.out.ext hE9);clear t0 t1;have t0:=HY9.out.c0;have t1:=HY9.out.c1;go_wp2_with fail;refine wpS_cons ?_;simp only [y9,bodyY,Tryz.f3,Option.getD_some];go_wp2_with fail
  (with_reducible refine (c_triB tri_w tri_p HY9.out.sig).mono ?_);rintro e w10 ⟨rfl,hE10⟩;have HYa:=Zh (HY9.out.ext hE10);have hE6a:=Ext.trans (Ext.trans (Ext.trans hE7 hE8) hE9) hE10;have HW10:=Zh (show w10.cell? ⟨q5,0,none⟩=some (.int .i64 W3.var)∧w10.cell? ⟨q5,1,none⟩=some (.slice A5 n5 c5)∧w10.cell? ⟨q5,2,none⟩=some (.slice B5 m5 d5) from ⟨Ext.keep hE6a HW6.out.1,Ext.keep hE6a HW6.out.2.1,Ext.keep hE6a HW6.out.2.2⟩);have HAa:=Zh (HA6.out.ext hE6a);have HBa:=Zh (HB6.out.ext hE6a);have HPa:=Zh (HP7.out.ext (Ext.trans (Ext.trans hE8 hE9) hE10));have hE0a:=Ext.trans hE06 hE6a;clear t0 t1;have t0:=HYa.out.c0;have t1:=HYa.out.c1;go_wp2_with fail;refine wpS_cons ?_;simp only [yE,bodyY,Tryz.f3,Option.getD_some]
  -- the check,then the loop
  have fin:∀ (w':World),Ext w10 w'→∀ a':Act,a'.tmps.size=148→(a'.tmps[6]?=some (.bool b3)∧a'.tmps[8]?=some (.bool b4)∧a'.tmps[10]?=some (.bool b1)∧a'.tmps[12]?=some (.bool b2))→a'.tmps[4]?=some (Value.pointer (some ⟨p,0,none⟩))→Ly v0 ⟨[2,1,0],rs⟩ a' w':=fun w' hE a' z1 z2 z3=>by
   obtain ⟨A',n',c',B',m',d',e',h1',h2'⟩:=(HYa.out.ext hE).rd;cases e';refine ⟨z1,HH.out.trans (Hx.ext (Ext.trans hE0a hE)),⟨HSY.out,rfl⟩,?_,p,AS,3,cS,B,m,d,z3,Ext.keep hE t0,Ext.keep hE t1,h1',h2'⟩;rw [HB3.out,HB4.out,HO1.out,HO2.out,HB1.out,HB2.out];exact z2
  have FIN:=Zh fin;clear fin;cases b3 with
  | false=>
   cases b4 with
   | false=>
    go_wp2_with fail;refine wpS_cons ?_;simp only [yL,bodyY,Tryz.f3,Option.getD_some];go_wp2_with fail;go_loop [15] (fun i=>i=.int .i64 0) (fun _=>0)
    case atStart=>rfl
    case round=>
     subst hrel;go_wp2_with fail;refine wpS_nil ?_;exact .inl ⟨rfl,rs,FIN.out _ (Ext.refl _) _ rfl ⟨rfl,rfl,rfl,rfl⟩ rfl⟩
   | true=>
    have HK4:=Zh (HG4.out rfl);go_wp2_with fail
    (with_reducible refine (c_sPoB HK4.out HYa.out.rd (RdPs.mk HPa.out)).mono ?_);rintro e w11 ⟨rfl,hE11⟩;go_wp2_with fail;refine wpS_cons ?_;simp only [yL,bodyY,Tryz.f3,Option.getD_some];go_wp2_with fail;go_loop [15] (fun i=>i=.int .i64 0) (fun _=>0)
    case atStart=>rfl
    case round=>
     subst hrel;go_wp2_with fail;refine wpS_nil ?_;exact .inl ⟨rfl,rs,FIN.out _ hE11 _ rfl ⟨rfl,rfl,rfl,rfl⟩ rfl⟩
  | true=>
   have HK3:=Zh (HG3.out rfl);have hv1:=HK3.out.2.1;have u0:w10.cell? ⟨q5,0,none⟩=some (.int .i64 1):=by rw [← hv1];exact HW10.out.1
   have u1:=HW10.out.2.1;have u2:=HW10.out.2.2;have HRW:=Zh (show RdWt w10 (.agg #[.int .i64 1,.slice A5 n5 c5,.slice B5 m5 d5]) W3 from by rw [← hv1];exact RdWt.mk HAa.out HBa.out);clear hv1;go_wp2_with fail
   (with_reducible refine (c_sKbB HK3.out.1 HYa.out.rd HRW.out).mono ?_);rintro e w11 ⟨rfl,hE11⟩;have u0':=Ext.keep hE11 u0;have u1':=Ext.keep hE11 u1;have HYb:=Zh (HYa.out.ext hE11);have HAb:=Zh (HAa.out.ext hE11);have HPb:=Zh (HPa.out.ext hE11);have tb0:=Ext.keep hE11 t0;have tb1:=Ext.keep hE11 t1;have hn5:n5=3:=by rw [← HK3.out.2.2.1];exact HAa.out.len.symm
   have HN5:=Zh hn5;clear hn5;cases b4 with
   | false=>
    go_wp2_with fail;refine wpS_cons ?_;simp only [yL,bodyY,Tryz.f3,Option.getD_some];go_wp2_with fail;go_loop [15] (fun i=>∃ k:Nat,i=.int .i64 k∧k≤3) (fun i=>3 - (intOf i).toNat)
    case atStart=>exact ⟨0,rfl,Zo⟩
    case round=>
     obtain ⟨k,rfl,hk⟩:=hrel;by_cases hlt:k < 3
     .have hk5:k < n5:=by rw [HN5.out];exact hlt
      obtain ⟨bx,ox,x,rfl,hx5,hcx⟩:=RI.at_ HAb.out hk5;have hx2:=HK3.out.2.2.2 k x hx5;have hki:(k:Int) < 3:=by omega
      have hx3:¬ 2 < x:=by omega
      go_wp2_with fail;go_round
      case rel=>exact ⟨k+1,by go_num,Zo⟩
      case measure=>exact mq52
     .have hk3:k=3:=by omega
      subst hk3;go_wp2_with fail;refine wpS_nil ?_;exact .inl ⟨rfl,rs,FIN.out _ hE11 _ rfl ⟨rfl,rfl,rfl,rfl⟩ rfl⟩
   | true=>
    have HK4:=Zh (HG4.out rfl);go_wp2_with fail
    (with_reducible refine (c_sPoB HK4.out HYb.out.rd (RdPs.mk HPb.out)).mono ?_);rintro e w12 ⟨rfl,hE12⟩;have u1'':=Ext.keep hE12 u1';have HAc:=Zh (HAb.out.ext hE12);have hE1b:=Ext.trans hE11 hE12;go_wp2_with fail;refine wpS_cons ?_;simp only [yL,bodyY,Tryz.f3,Option.getD_some];go_wp2_with fail;go_loop [15] (fun i=>∃ k:Nat,i=.int .i64 k∧k≤3) (fun i=>3 - (intOf i).toNat)
    case atStart=>exact ⟨0,rfl,Zo⟩
    case round=>
     obtain ⟨k,rfl,hk⟩:=hrel;by_cases hlt:k < 3
     .have hk5:k < n5:=by rw [HN5.out];exact hlt
      obtain ⟨bx,ox,x,rfl,hx5,hcx⟩:=RI.at_ HAc.out hk5;have hx2:=HK3.out.2.2.2 k x hx5;have hki:(k:Int) < 3:=by omega
      have hx3:¬ 2 < x:=by omega
      go_wp2_with fail;go_round
      case rel=>exact ⟨k+1,by go_num,Zo⟩
      case measure=>exact mq52
     .have hk3:k=3:=by omega
      subst hk3;go_wp2_with fail;refine wpS_nil ?_;exact .inl ⟨rfl,rs,FIN.out _ hE1b _ rfl ⟨rfl,rfl,rfl,rfl⟩ rfl⟩
end Go.Proofs.YtiblbnkpjmmjaaaGreat
namespace Go.Proofs.YtiblbnkpjmmjaaaGreat
open Go.Conc Go.RowKit
section
variable {L:Lim} {β γ:Bl}
theorem VRel.uniq (hid:∀ k x,k < L.m→β k=some x→x=k) {u y:Value} (h:VRel L β u y):∀ {z:Value},VRel L β u z→y=z:=by
 have arr:∀ {us bs cs:Array Value},us.size=bs.size→us.size=cs.size→(∀ (i:Nat) (v w:Value),us[i]?=some v→bs[i]?=some w→∀ {z:Value},VRel L β v z→w=z) →
  (∀ (i:Nat) (v w:Value),us[i]?=some v→cs[i]?=some w→VRel L β v w)→bs=cs:=fun {us bs cs} h1 h2 ih k=>by
  refine Array.ext_getElem? fun i=>?_;cases hb:bs[i]? with
  | none=>
   have:cs.size≤i:=by rw [← h2,h1];simpa using hb
   simp [this]
  | some b=>
   have hi:i < bs.size:=(Array.getElem?_eq_some_iff.1 hb).1;have ha:us[i]?=some us[i]:=Array.getElem?_eq_getElem Zo;have hc:cs[i]?=some cs[i]:=Array.getElem?_eq_getElem Zo;rw [hc,ih i _ _ ha hb (k i _ _ ha hc)]
 have ora:∀ {a b c:Option Addr},OARel L β a b→OARel L β a c→b=c:=fun {a b c} h k=>by
  cases a with
  | none=>cases b<;>cases c<;>first | rfl | exact h.elim | exact k.elim
  | some a=>
   cases b with
   | none=>exact h.elim
   | some b=>
    cases c with
    | none=>exact k.elim
    | some c=>
     obtain ⟨h1,h2,h3,_⟩:=h;obtain ⟨k1,k2,k3,_⟩:=k;rw [h1] at k1;obtain ⟨bb,bo,bs⟩:=b;obtain ⟨cb,co,cs⟩:=c;simp only at h2 h3 k2 k3 k1;injection k1 with k1
     rw [k1,← h2,← h3,← k2,← k3]
 have orz:∀ {a:Addr} {b:Option Addr},a.block < L.m→OARel L β (some a) b→b=some a:=fun {a b} hm h=>by
  cases b with
  | none=>exact h.elim
  | some b=>
   obtain ⟨h1,h2,h3,_⟩:=h;have:=hid _ _ hm h1;obtain ⟨bb,bo,bs⟩:=b;obtain ⟨ab,ao,us⟩:=a;simp only at h2 h3 this;rw [this,h2,h3]
 induction h with
 | poison h=>exact fun k=>(pz_inv k).symm
 | bool b=>intro z k;generalize hx:Value.bool b=x at k;cases k<;>cases hx<;>rfl
 | int kd n=>intro z k;generalize hx:Value.int kd n=x at k;cases k<;>cases hx<;>rfl
 | string s=>intro z k;generalize hx:Value.string s=x at k;cases k<;>cases hx<;>rfl
 | @pointer a b h=>
  intro z k;generalize hx:Value.pointer a=x at k;cases k<;>cases hx
  rename_i k
  rw [ora h k]
 | @slice a b n c h=>
  intro z k;generalize hx:Value.slice a n c=x at k;cases k<;>cases hx
  .rename_i k
   rw [ora h k]
  .rename_i k
   rw [orz k h]
 | sliceZ a h=>
  intro z k;generalize hx:Value.slice (some a) 0 0=x at k;cases k<;>cases hx
  .rename_i k
   rw [orz h k]
  .rfl
 | map=>intro z k;generalize hx:Value.map none=x at k;cases k<;>cases hx<;>rfl
 | @chan r s h=>
  intro z k;generalize hx:Value.chan (some r)=x at k;cases k<;>cases hx
  rename_i k
  rw [h] at k;cases k;rfl
 | chan0=>intro z k;generalize hx:Value.chan none=x at k;cases k<;>cases hx<;>rfl
 | @func f us bs cs ds hf h1 h2 _ _ i3 i4=>
  intro z k;generalize hx:Value.func (.func f) us cs=x at k;cases k<;>cases hx
  congr 1
  .exact arr h1 (by assumption) i3 (by assumption)
  .exact arr h2 (by assumption) i4 (by assumption)
 | nilFunc=>intro z k;generalize hx:Value.nilFunc=x at k;cases k<;>cases hx<;>rfl
 | @iface t v w ht h ih=>
  intro z k;generalize hx:Value.iface t v=x at k;cases k<;>cases hx
  rename_i k1 k2
  rw [ih k2]
 | nilIface=>intro z k;generalize hx:Value.nilIface=x at k;cases k<;>cases hx<;>rfl
 | @agg us bs h1 h ih=>
  intro z k;generalize hx:Value.agg us=x at k;cases k<;>cases hx
  rename_i k1 k2
  rw [arr h1 k1 ih k2]
 | @tuple us bs h1 h ih=>
  intro z k;generalize hx:Value.tuple us=x at k;cases k<;>cases hx
  rename_i k1 k2
  rw [arr h1 k1 ih k2]
theorem VsRel.uniq (hid:∀ k x,k < L.m→β k=some x→x=k) {us ys zs:Array Value} (h:VsRel L β us ys) (k:VsRel L β us zs):ys=zs:=by
 have:=VRel.uniq hid (VRel.agg h.1 h.2) (VRel.agg k.1 k.2);injection this
end
def isCells:Option Obj→Bool
 | some (.cells _ _ _)=>true
 | _=>false
def bet0 (W:World):Bl:=fun k=>if isCells W.heap[k]? then some k else none
theorem bet0_inv {W:World} {k x:Nat} (h:bet0 W k=some x):x=k∧∃ d T f,W.heap[k]?=some (.cells d T f):=by
 unfold bet0 at h;split at h
 .rename_i hc
  cases h;refine ⟨rfl,?_⟩;cases hk:W.heap[k]? with
  | none=>rw [hk] at hc;cases hc
  | some o=>
   rw [hk] at hc;cases o with
   | cells d T f=>exact ⟨d,T,f,rfl⟩
   | _=>cases hc
 .cases h
theorem bet0_of {W:World} {k:Nat} {d:Array Value} {T:TypeId} {f:Nat×Nat} (h:W.heap[k]?=some (.cells d T f)):bet0 W k=some k:=by
 unfold bet0;rw [h];rfl
def padW (W:World) (m:Nat):World:={ W with heap:=W.heap++Array.replicate m default }
theorem padW_at {W:World} {m k:Nat} (h:k < W.heap.size):(padW W m).heap[k]?=W.heap[k]?:=by
 show (W.heap++_)[k]?=_;rw [Array.getElem?_append_left h]
theorem padW_size (W:World) (m:Nat):(padW W m).heap.size=W.heap.size+m:=by simp [padW]
theorem ghost_start (L:Lim) (hg:L.g=0) (W:World):∃ v:World,v.heap.size=W.heap.size+L.m∧WRel L (bet0 W) v W∧∀ (p:Addr) (x:Value),W.cell? p=some x→VRel L (bet0 W) x x→v.cell? p=some x:=by
 obtain ⟨v,h1,_,_,_,_,h6,h7⟩:=rebuild (L:=L) (γ:=bet0 W) (padW W L.m) W (fun k x e=>by
  obtain ⟨rfl,d,T,f,h⟩:=bet0_inv e;have:=(Array.getElem?_eq_some_iff.1 h).1;exact ⟨by rw [padW_size];omega,d,T,f,h⟩) (fun k l x e1 e2=>by rw [← (bet0_inv e1).1,← (bet0_inv e2).1]) (by rw [hg];exact Nat.zero_le _) (by rw [hg];exact Nat.zero_le _)
 refine ⟨v,by rw [h1,padW_size],h6,fun p x hx hr=>?_⟩;obtain ⟨c,T,f,e,hs,hc⟩:=cell_isC hx;have hlt:=(Array.getElem?_eq_some_iff.1 e).1;obtain ⟨c',k1,k2,k3⟩:=h7 p.block p.block c T f (bet0_of e) e;have:=k3 p.off x x (by rw [padW_at hlt,e];exact hc) hc hr;unfold World.cell?;rw [k1];simp only [hs,Option.isSome_none,Bool.false_eq_true,if_false];exact this
theorem real_end {L:Lim} {W v v' w:World} {γ:Bl} {O:Set_} (hv:L.m≤v.heap.size) (hW:WRel L (bet0 W) v W) (hW':WRel L γ v' w) (hH:Hx v v') (hA:Acc (fun x=>x < W.heap.size) (bet0 W) v W O γ v' w):Below W.heap.size W w:=by
 refine ⟨hA.os,hA.tape,hA.output,hA.gw,fun k hk=>?_⟩;have hid:∀ k x,k < L.m→γ k=some x→x=k:=fun k x hm e=>by
  rcases hA.new k x e with h | ⟨_,h⟩
  .exact (bet0_inv h).1
  .omega
 cases hb:bet0 W k with
 | none=>
  refine hA.keep k hk hk fun l e=>?_;obtain ⟨rfl,d,T,f,h⟩:=bet0_inv e;rw [bet0_of h] at hb;cases hb
 | some x=>
  obtain ⟨rfl,d,T,f,h⟩:=bet0_inv hb;obtain ⟨o,p,h1,h2,h3⟩:=hW.blk _ _ hb;rw [h] at h2;cases h2;cases h3 with
  | cells _ _ h3=>
   rename_i c
   obtain ⟨o',p',k1,k2,k3⟩:=hW'.blk _ _ (hA.le _ _ hb);rw [hH.2 x (lt_of_heap h1),h1] at k1;cases k1;cases k3 with
   | cells _ _ k3=>
    rename_i d'
    rw [k2,h];rw [VsRel.uniq hid k3 (h3.mono hA.le)]
end Go.Proofs.YtiblbnkpjmmjaaaGreat
namespace Go.Proofs.YtiblbnkpjmmjaaaGreat
open Go.ChangeShapes Go.WideShapes Go.ChangeAt Go.RowKit Go.Joins Go.Deep
def Fit (w:World) (A:Option Addr) (n c:Nat):Prop:=A=none∨∃ a,A=some a∧((∃ d T f,w.heap[a.block]?=some (.cells d T f))∨(n=0∧c=0))
theorem Fit.of_cell {w:World} {a:Addr} {n c:Nat} {i:Nat} {x:Value} (h:w.cell? (a.add i)=some x):Fit w (some a) n c:=by
 obtain ⟨d,T,f,h1,_⟩:=cell_isC h;rw [add_blockC] at h1;exact .inr ⟨a,rfl,.inl ⟨d,T,f,h1⟩⟩
theorem Fit.rel {w:World} {A:Option Addr} {n c:Nat} (h:Fit w A n c):∃ M,∀ m,M≤m→VRel (LM m) (bet0 w) (.slice A n c) (.slice A n c):=by
 rcases h with rfl | ⟨a,rfl,⟨d,T,f,h⟩ | ⟨rfl,rfl⟩⟩
 .exact ⟨0,fun m _=>.slice (a:=none) (b:=none) _ _ trivial⟩
 .exact ⟨0,fun m _=>.slice (a:=some a) (b:=some a) _ _ ⟨bet0_of h,rfl,rfl,Nat.zero_le _,Nat.zero_le _⟩⟩
 .exact ⟨a.block+1,fun m hm=>.sliceZ a (show a.block < m by omega)⟩
section
variable {H:Type} {enc:TypeId×Value→H} {P:Program} {w:World} {base b0:Nat} {held:Bool} {r:Reach}
end
section
variable {W v:World} {m:Nat} {A:Option Addr} {n c:Nat}
end
section
variable {H:Type} {enc:TypeId×Value→H} {w:World} {base b0:Nat} {held:Bool} {r:Reach}
theorem raw_By {v:Value} {d:DataW H} {p:List MemPlace} (hv:Value.okWide Tryz.prog w r b0 22 v) (h:DataW.Trod enc Tryz.prog w base (fun _=>true) held 22 v d p):∃ x,RawBy w v x:=by
 obtain ⟨a0,len0,cap0,rfl⟩:=okWide_slice Tryz.underlying22 hv;obtain ⟨fuel,hf⟩:=h;rcases open_ints Tryz.underlying22 Tryz.underlying5 Zk hf with ⟨hcs,_⟩ | ⟨a,len,cap,zs,hcs,_,hl,hm,hz,_,hcell,hwf⟩
 .simp [Value.cells] at hcs;obtain ⟨rfl,rfl,rfl⟩:=hcs;exact ⟨0,none,0,rfl,Zo,fun h=>Zo⟩
 .simp [Value.cells] at hcs;obtain ⟨rfl,rfl,rfl⟩:=hcs;simp only [if_true] at hz;refine ⟨len0,some a,cap0,rfl,by unfold maxLen at hm;omega,fun hn=>?_⟩;obtain ⟨b,o,spot⟩:=a;have hspot:spot=none:=by
   have:=hcell 0 Zo
   simpa [Addr.add] using World.cell?_spot this
  subst hspot;refine ⟨b,o,rfl,fun j hj=>?_⟩;have hcj:=hcell j Zo;rw [Addr.add_lit] at hcj;refine ⟨_,hcj,?_⟩;have hjl:j < zs.length:=by omega
  have hm':zs.getD j 0∈zs:=by
   rw [List.getD_eq_getElem?_getD,List.getElem?_eq_getElem hjl];exact List.getElem_mem hjl
  have:=hwf _ hm';simp only [Lit.wf,IntKind.min,IntKind.max,IntKind.bits,IntKind.signed] at this;simp at this;simp only [List.getD_eq_getElem?_getD] at *;omega
end

