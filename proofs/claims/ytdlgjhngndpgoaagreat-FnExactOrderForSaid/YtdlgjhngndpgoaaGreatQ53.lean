/- -/
import Derived.Test.YtdlgjhngndpgoaaGreatQ52
set_option maxRecDepth 100000
set_option maxHeartbeats 16000000
set_option linter.all false
namespace Go.Proofs.YtdlgjhngndpgoaaGreat
open Go.ChangeShapes Go.WideShapes Go.ChangeAt Go.RowKit Go.Joins Go.Deep
def Fit (w:World) (A:Option Addr) (n c:Nat):Prop:=A=none∨∃ a,A=some a∧((∃ d T f,w.heap[a.block]?=some (.cells d T f))∨(n=0∧c=0))
theorem Fit.of_cell {w:World} {a:Addr} {n c:Nat} {i:Nat} {x:Value} (h:w.cell? (a.add i)=some x):Fit w (some a) n c:=by
 obtain ⟨d,T,f,h1,_⟩:=cell_isC h;rw [add_blockC] at h1;exact .inr ⟨a,rfl,.inl ⟨d,T,f,h1⟩⟩
theorem Fit.rel {w:World} {A:Option Addr} {n c:Nat} (h:Fit w A n c):∃ M,∀ m,M≤m→VRel (LM m) (bet0 w) (.slice A n c) (.slice A n c):=by
 rcases h with rfl | ⟨a,rfl,⟨d,T,f,h⟩ | ⟨rfl,rfl⟩⟩
 .exact ⟨0,fun m _=>.slice (a:=none) (b:=none) _ _ trivial⟩
 .exact ⟨0,fun m _=>.slice (a:=some a) (b:=some a) _ _ ⟨bet0_of h,rfl,rfl,Nat.zero_le _,Nat.zero_le _⟩⟩
 .exact ⟨a.block+1,fun m hm=>.sliceZ a (show a.block < m by omega)⟩
theorem bound_all {Q:Nat→Nat→Prop} (h:∀ j,∃ M,∀ m,M≤m→Q j m):∀ N,∃ M,∀ m,M≤m→∀ j,j < N→Q j m
 | 0=>⟨0,fun m _ j hj=>absurd hj Zo⟩
 | N+1=>by
  obtain ⟨M1,h1⟩:=bound_all h N;obtain ⟨M2,h2⟩:=h N;refine ⟨M1+M2,fun m hm j hj=>?_⟩;rcases Nat.lt_or_ge j N with hl | hl
  .exact h1 m Zo j hl
  .obtain rfl:j=N:=by omega
   exact h2 m Zo
def FG (w:World) (b o:Nat) (xs:List Int):Prop:=∃ A n c,w.cell? ⟨b,o,none⟩=some (.slice A n c)∧RJ w A n xs∧Fit w A n c
def RRG (w:World) (B:Option Addr) (m:Nat) (rs:List Ru):Prop:=
 (rs.length=m∧m≤9223372036854775807)∧(0 < m→∃ b o,B=some ⟨b,o,none⟩∧∀ (j:Nat) (r:Ru),rs[j]?=some r→FG w b (o+j * 2) r.l∧FG w b (o+j * 2+1) r.r)
def RawG (w:World) (v:Value) (s:Sy):Prop:=∃ A n c B m d,v=.agg #[.slice A n c,.slice B m d]∧RJ w A n s.ar∧Fit w A n c∧RRG w B m s.rs∧Fit w B m d
section
variable {H:Type} {enc:TypeId×Value→H} {P:Program} {w:World} {base b0:Nat} {held:Bool} {r:Reach}
theorem raw_intsG {t e:TypeId} {fuel:Nat} {cs:List Value} {x:DataW H×List MemPlace} (ht:P.underlying t=some (.slice e)) (he:P.underlying e=some (.int .i64)) (hc:P.cellsOf e=1)
 (h:DataW.trod enc P w base (fun _=>true) held fuel t cs=some x):∃ A n c xs,cs=[.slice A n c]∧RJ w A n xs∧Fit w A n c:=by
 have h':=h;obtain ⟨A,n,c,xs,e1,hr⟩:=raw_ints ht he hc h;refine ⟨A,n,c,xs,e1,hr,?_⟩;rcases open_ints ht he hc h' with ⟨hcs,_⟩ | ⟨a,len,cap,zs,hcs,_,hl,hm,hz,_,hcell,hwf⟩
 .rw [hcs] at e1;simp at e1;exact .inl e1.1.symm
 .rw [hcs] at e1;simp at e1;obtain ⟨rfl,rfl,rfl⟩:=e1;simp only [if_true] at hz;rcases Nat.eq_zero_or_pos cap with h0 | h0
  .exact .inr ⟨a,rfl,.inr ⟨Zo,h0⟩⟩
  .exact Fit.of_cell (hcell 0 Zo)
theorem raw_rulesG {fuel:Nat} {cs:List Value} {x:DataW H×List MemPlace} (h:DataW.trod enc Tryz.prog w base (fun _=>true) held fuel 49 cs=some x):∃ A n c rs,cs=[.slice A n c]∧RRG w A n rs∧Fit w A n c:=by
 rcases open_slice_fields Tryz.underlying49 Tryz.underlying113 Zk Zk h with ⟨hcs,_⟩ | ⟨a,len,cap,m,D,Q,hcs,_,hl,hm,hmm,_,hi⟩
 .exact ⟨none,0,0,[],hcs,⟨⟨rfl,Zo⟩,fun h=>Zo⟩,.inl rfl⟩
 .simp only [if_true] at hmm;have hone:∀ i,∃ p:Ru,i < len→(∃ A n c,w.cell? (a.add (i * 2))=some (.slice A n c)∧RJ w A n p.l∧Fit w A n c)∧(∃ A n c,w.cell? (a.add (i * 2+1))=some (.slice A n c)∧RJ w A n p.r∧Fit w A n c):=by
   intro i;by_cases hlt:i < len
   .obtain ⟨ys,n,_,_,_,hf⟩:=hi i Zo;obtain ⟨v0,y0,hc0,_,ht0⟩:=hf 0 _ rfl;obtain ⟨v1,y1,hc1,_,ht1⟩:=hf 1 _ rfl;obtain ⟨A,n0,c0,zs,e0,r0⟩:=raw_intsG Tryz.underlying27 Tryz.underlying2 Zk ht0;obtain ⟨B,n1,c1,xs,e1,r1⟩:=raw_intsG Tryz.underlying27 Tryz.underlying2 Zk ht1;simp at e0 e1;subst e0 e1;exact ⟨⟨zs,xs⟩,fun _=>⟨⟨A,n0,c0,hc0,r0⟩,⟨B,n1,c1,hc1,r1⟩⟩⟩
   .exact ⟨⟨[],[]⟩,fun h=>absurd h hlt⟩
  obtain ⟨f,hf⟩:=Classical.axiomOfChoice hone;have hfit:Fit w (some a) len cap:=by
   rcases Nat.eq_zero_or_pos cap with h0 | h0
   .exact .inr ⟨a,rfl,.inr ⟨Zo,h0⟩⟩
   .obtain ⟨ys,n,_,_,_,hf⟩:=hi 0 Zo;obtain ⟨v0,y0,hc0,_,_⟩:=hf 0 _ rfl;exact Fit.of_cell hc0
  refine ⟨some a,len,cap,(List.range len).map f,hcs,⟨⟨by simp,by unfold maxLen at hm;omega⟩,fun hn=>?_⟩,hfit⟩;obtain ⟨b,o,spot⟩:=a;have hspot:spot=none:=by
   obtain ⟨⟨A,n,c,h1,_⟩,_⟩:=hf 0 hn
   simpa [Addr.add] using World.cell?_spot h1
  subst hspot;refine ⟨b,o,rfl,fun j p hp=>?_⟩;rw [List.getElem?_map] at hp;obtain ⟨i,hi',rfl⟩:=Option.map_eq_some_iff.1 hp;obtain ⟨hl',rfl⟩:=List.getElem?_eq_some_iff.1 hi';rw [List.getElem_range];rw [List.length_range] at hl';have:=hf j hl';rw [Addr.add_lit,Addr.add_lit] at this;exact this
theorem raw_SyG {v:Value} {d:DataW H} {p:List MemPlace} (hv:Value.okWide Tryz.prog w r b0 51 v) (h:DataW.Trod enc Tryz.prog w base (fun _=>true) held 51 v d p):∃ x,RawG w v x:=by
 obtain ⟨v0,v1,y0,y1,n,rfl,_,_,h0,h1⟩:=open_agg2 Tryz.underlying51 Zk Zk hv h;obtain ⟨xs,n',_,_,_,hlen,hg⟩:=DataW.trod_struct Tryz.underlying48 h0;have h00:=hg 0 _ rfl;obtain ⟨B,m,c1,rs,e1,r1⟩:=raw_rulesG h1
 match xs,hlen,h00 with
 | [x0],_,h00=>
  have h01:DataW.trod enc Tryz.prog w base (fun _=>true) held n' 27 [v0]=some x0:=h00;obtain ⟨A,n0,c0,zs,e0,r0⟩:=raw_intsG Tryz.underlying27 Tryz.underlying2 Zk h01;simp at e0 e1;subst e0 e1;exact ⟨⟨zs,rs⟩,A,n0,c0,B,m,c1,rfl,r0.1,r0.2,r1.1,r1.2⟩
end
section
variable {W v:World} {m:Nat} {A:Option Addr} {n c:Nat}
theorem RJ.ghost (hk:∀ (p:Addr) (x:Value),W.cell? p=some x→VRel (LM m) (bet0 W) x x→v.cell? p=some x) {xs:List Int} (h:RJ W A n xs):RJ v A n xs:=
 ⟨h.1,fun hn=>by
  obtain ⟨b,o,e,hc⟩:=h.2.1 hn;exact ⟨b,o,e,fun j x hx=>hk _ _ (hc j x hx) (.int _ _)⟩,h.2.2⟩
theorem RRG.rel {rs:List Ru} (h:RRG W A n rs):∃ M,∀ m,M≤m→∀ v:World,(∀ (p:Addr) (x:Value),W.cell? p=some x→VRel (LM m) (bet0 W) x x→v.cell? p=some x)→RRJ v A n rs:=by
 rcases Nat.eq_zero_or_pos n with h0 | h0
 .exact ⟨0,fun m _ v _=>⟨h.1,fun hn=>absurd hn Zo⟩⟩
 obtain ⟨b,o,e,hc⟩:=h.2 h0;have one:∀ off xs,FG W b off xs→∃ M,∀ m,M≤m→∀ v:World,(∀ (p:Addr) (x:Value),W.cell? p=some x→VRel (LM m) (bet0 W) x x→v.cell? p=some x)→FJ v b off xs:=fun off xs ⟨A',n',c',k1,k2,k3⟩=>by
  obtain ⟨M,hM⟩:=k3.rel;exact ⟨M,fun m hm v hk=>⟨A',n',c',hk _ _ k1 (hM m hm),k2.ghost hk⟩⟩
 obtain ⟨M,hM⟩:=bound_all (Q:=fun j m=>∀ v:World,(∀ (p:Addr) (x:Value),W.cell? p=some x→VRel (LM m) (bet0 W) x x→v.cell? p=some x)→∀ r,rs[j]?=some r→FJ v b (o+j * 2) r.l∧FJ v b (o+j * 2+1) r.r) (fun j=>by
  cases hr:rs[j]? with
  | none=>exact ⟨0,fun m _ v _ r e=>by cases e⟩
  | some r=>
   obtain ⟨h1,h2⟩:=hc j r hr;obtain ⟨M1,k1⟩:=one _ _ h1;obtain ⟨M2,k2⟩:=one _ _ h2;exact ⟨M1+M2,fun m hm v hk r' e=>by cases e;exact ⟨k1 m Zo v hk,k2 m Zo v hk⟩⟩) n
 refine ⟨M,fun m hm v hk=>⟨h.1,fun hn=>⟨b,o,e,fun j r hr=>hM m hm j ?_ v hk r hr⟩⟩⟩;have:=(List.getElem?_eq_some_iff.1 hr).1;have:=h.1.1;omega
theorem start_ghost {v0:Value} {s:Sy} (h:RawG W v0 s):∃ m v A n c B k d,v0=.agg #[.slice A n c,.slice B k d]∧VRel (LM m) (bet0 W) v0 v0∧m≤v.heap.size∧WRel (LM m) (bet0 W) v W∧RJ v A n s.ar∧RRJ v B k s.rs:=by
 obtain ⟨A,n,c,B,k,d,rfl,h1,h2,h3,h4⟩:=h;obtain ⟨M1,k1⟩:=h2.rel;obtain ⟨M2,k2⟩:=h3.rel;obtain ⟨M3,k3⟩:=h4.rel;obtain ⟨v,q1,q2,q3⟩:=ghost_start (LM (M1+M2+M3)) rfl W;refine ⟨M1+M2+M3,v,A,n,c,B,k,d,rfl,?_,?_,q2,h1.ghost q3,k2 _ Zo v q3⟩
 .refine .agg rfl fun i u y e1 e2=>?_;rw [e1] at e2;cases e2;rcases i with _ | _ | i
  .simp at e1;subst e1;exact k1 _ Zo
  .simp at e1;subst e1;exact k3 _ Zo
  .simp at e1
 .rw [q1];show M1+M2+M3≤W.heap.size+(M1+M2+M3);omega
end
end Go.Proofs.YtdlgjhngndpgoaaGreat
namespace Go.Proofs.YtdlgjhngndpgoaaGreat
open Go.Conc Go.ChangeShapes Go.WideShapes Go.ChangeAt Go.RowKit
set_option maxRecDepth 100000
noncomputable def bodyZ:Code:=Tryz.f4.body.getD .skip
noncomputable def lz0:Code:=match bodyZ with | .seq r _=>r | _=>.skip
noncomputable def lz1:Code:=match bodyZ with | .seq _ (.seq r _)=>r | _=>.skip
noncomputable def lz2:Code:=match bodyZ with | .seq _ (.seq _ (.seq r _))=>r | _=>.skip
noncomputable def lz3:Code:=match bodyZ with | .seq _ (.seq _ (.seq _ (.seq r _)))=>r | _=>.skip
noncomputable def lz5:Code:=match bodyZ with | .seq _ (.seq _ (.seq _ (.seq _ (.seq r _))))=>r | _=>.skip
noncomputable def lz6:Code:=match bodyZ with | .seq _ (.seq _ (.seq _ (.seq _ (.seq _ (.seq r _)))))=>r | _=>.skip
noncomputable def lz7:Code:=match bodyZ with | .seq _ (.seq _ (.seq _ (.seq _ (.seq _ (.seq _ (.seq r _))))))=>r | _=>.skip
noncomputable def lzC:Code:=match bodyZ with | .seq _ (.seq _ (.seq _ (.seq _ (.seq _ (.seq _ (.seq _ r))))))=>r | _=>.skip
theorem bodyZ_eq:bodyZ=.seq lz0 (.seq lz1 (.seq lz2 (.seq lz3 (.seq lz5 (.seq lz6 (.seq lz7 lzC)))))):=by simp only [lz0,lz1,lz2,lz3,lz5,lz6,lz7,lzC,bodyZ,Tryz.f4,Option.getD_some]
theorem lit31 {T:Array Value} (h:T.size=31):∃ x0 x1 x2 x3 x4 x5 x6 x7 x8 x9 x10 x11 x12 x13 x14 x15 x16 x17 x18 x19 x20 x21 x22 x23 x24 x25 x26 x27 x28 x29 x30:Value,T=#[x0,x1,x2,x3,x4,x5,x6,x7,x8,x9,x10,x11,x12,x13,x14,x15,x16,x17,x18,x19,x20,x21,x22,x23,x24,x25,x26,x27,x28,x29,x30]:=by
 obtain ⟨l⟩:=T;rcases l with _ | ⟨x0,l⟩
 .simp at h
 rcases l with _ | ⟨x1,l⟩
 .simp at h
 rcases l with _ | ⟨x2,l⟩
 .simp at h
 rcases l with _ | ⟨x3,l⟩
 .simp at h
 rcases l with _ | ⟨x4,l⟩
 .simp at h
 rcases l with _ | ⟨x5,l⟩
 .simp at h
 rcases l with _ | ⟨x6,l⟩
 .simp at h
 rcases l with _ | ⟨x7,l⟩
 .simp at h
 rcases l with _ | ⟨x8,l⟩
 .simp at h
 rcases l with _ | ⟨x9,l⟩
 .simp at h
 rcases l with _ | ⟨x10,l⟩
 .simp at h
 rcases l with _ | ⟨x11,l⟩
 .simp at h
 rcases l with _ | ⟨x12,l⟩
 .simp at h
 rcases l with _ | ⟨x13,l⟩
 .simp at h
 rcases l with _ | ⟨x14,l⟩
 .simp at h
 rcases l with _ | ⟨x15,l⟩
 .simp at h
 rcases l with _ | ⟨x16,l⟩
 .simp at h
 rcases l with _ | ⟨x17,l⟩
 .simp at h
 rcases l with _ | ⟨x18,l⟩
 .simp at h
 rcases l with _ | ⟨x19,l⟩
 .simp at h
 rcases l with _ | ⟨x20,l⟩
 .simp at h
 rcases l with _ | ⟨x21,l⟩
 .simp at h
 rcases l with _ | ⟨x22,l⟩
 .simp at h
 rcases l with _ | ⟨x23,l⟩
 .simp at h
 rcases l with _ | ⟨x24,l⟩
 .simp at h
 rcases l with _ | ⟨x25,l⟩
 .simp at h
 rcases l with _ | ⟨x26,l⟩
 .simp at h
 rcases l with _ | ⟨x27,l⟩
 .simp at h
 rcases l with _ | ⟨x28,l⟩
 .simp at h
 rcases l with _ | ⟨x29,l⟩
 .simp at h
 rcases l with _ | ⟨x30,l⟩
 .simp at h
 rcases l with _ | ⟨x,l⟩
 .exact ⟨x0,x1,x2,x3,x4,x5,x6,x7,x8,x9,x10,x11,x12,x13,x14,x15,x16,x17,x18,x19,x20,x21,x22,x23,x24,x25,x26,x27,x28,x29,x30,rfl⟩
 .simp at h
def litZ (x0 x1:Value):Act:={ tmps:=#[x0,x1,undef,undef,undef,undef,undef,undef,undef,undef,undef,undef,undef,undef,undef,undef,undef,undef,undef,undef,undef,undef,undef,undef,undef,undef,undef,undef,undef,undef,undef],defers:=[] }
theorem litZ_eq (x y:Value):(litZ x y).tmps=#[x,y]++Array.replicate 29 undef:=by
 apply Array.ext';rw [Array.toList_append,Array.toList_replicate]
 rfl
theorem wpS_cons {P:Program} {c:Code} {cs:List Code} {Q:Exit→Act→World→Prop} {a:Act} {w:World} (h:c.wp P (Exit.then (wpS P cs Q) Q) a w):wpS P (c :: cs) Q a w:=h
theorem wpS_nil {P:Program} {Q:Exit→Act→World→Prop} {a:Act} {w:World} (h:Q .normal a w):wpS P [] Q a w:=h
def Lz (v0:World) (x0:Sy) (most:Int) (PA0:Option Addr) (pn0 pc0:Nat) (PB0:Option Addr) (pm0 pd0:Nat) (a:Act) (v:World):Prop:=
 a.tmps.size=31∧Hx v0 v∧∃ q2 q7 A5 n5 c5 B5 m5 d5,a.tmps[1]?=some (.int .i64 most)∧a.tmps[2]?=some (Value.pointer (some ⟨q2,0,none⟩))∧v.cell? ⟨q2,0,none⟩=some (.slice PA0 pn0 pc0)∧v.cell? ⟨q2,1,none⟩=some (.slice PB0 pm0 pd0) ∧
  a.tmps[6]?=some (.int .i64 (ordV x0 most))∧a.tmps[7]?=some (Value.pointer (some ⟨q7,0,none⟩))∧v.cell? ⟨q7,0,none⟩=some (.slice A5 n5 c5)∧v.cell? ⟨q7,1,none⟩=some (.slice B5 m5 d5) ∧
  RI v A5 n5 x0.ar∧RR true v B5 m5 x0.rs∧RI v0 PA0 pn0 x0.ar∧RR false v0 PB0 pm0 x0.rs
def Rz (v0:World) (a:Act) (v:World):Prop:=a.tmps.size=31∧a.tmps[4]?=some (.bool true)∧Hx v0 v
section
variable {v0 v v' w:World} {x0:Sy} {most:Int} {PA0 PB0:Option Addr} {pn0 pc0 pm0 pd0:Nat} {a:Act}
theorem Lz.sz (h:Lz v0 x0 most PA0 pn0 pc0 PB0 pm0 pd0 a v):a.tmps.size=31:=h.1
theorem Lz.hx (h:Lz v0 x0 most PA0 pn0 pc0 PB0 pm0 pd0 a v) (k:Hx v v'):Lz v0 x0 most PA0 pn0 pc0 PB0 pm0 pd0 a v':=by
 obtain ⟨h0,h1,q2,q7,A5,n5,c5,B5,m5,d5,k1,k2,k3,k4,k5,k6,k7,k8,k9,k10,k11⟩:=h;exact ⟨h0,h1.trans k,q2,q7,A5,n5,c5,B5,m5,d5,k1,k2,k.keep k3,k.keep k4,k5,k6,k.keep k7,k.keep k8,k9.hx k,k10.hx k,k11⟩
theorem Lz.put {t:Nat} {x:Value} (h:Lz v0 x0 most PA0 pn0 pc0 PB0 pm0 pd0 a v) (h1:t≠1) (h2:t≠2) (h6:t≠6) (h7:t≠7):Lz v0 x0 most PA0 pn0 pc0 PB0 pm0 pd0 (a.put (some t) x) v:=by
 obtain ⟨e0,e1,q2,q7,A5,n5,c5,B5,m5,d5,k1,k2,k3,k4,k5,k6,k7⟩:=h;exact ⟨by rw [put_size,e0],e1,q2,q7,A5,n5,c5,B5,m5,d5,by rw [put_get,if_neg h1,k1],by rw [put_get,if_neg h2,k2],k3,k4,by rw [put_get,if_neg h6,k5],by rw [put_get,if_neg h7,k6],k7⟩
theorem chunkZ (hH:Hx v0 w) (ha00:RJ v0 PA0 pn0 x0.ar) (hb00:RRJ v0 PB0 pm0 x0.rs) :
 wpS Tryz.prog [lz0,lz1,lz2,lz3,lz5,lz6] (fun e a' v'=>(e=.normal∧Lz v0 x0 most PA0 pn0 pc0 PB0 pm0 pd0 a' v')∨(e=.ret∧Rz v0 a' v')) (litZ (.agg #[.slice PA0 pn0 pc0,.slice PB0 pm0 pd0]) (.int .i64 most)) w:=by
 have ha0:RJ w PA0 pn0 x0.ar:=RJ.ext (w:={ w with heap:=v0.heap }) ha00 hH.to;have hb0:RRJ w PB0 pm0 x0.rs:=RRJ.ext (w:={ w with heap:=v0.heap }) hb00 hH.to;have HJ0:=Zh ha0;have HJ0b:=Zh hb0;have HZ0:=Zh (And.intro ha00 hb00);have HL0:=Zh ha0.1;have HL0b:=Zh hb0.1;have HH:=Zh hH;clear ha0 hb0 hH ha00 hb00;have b0 : -1≤szSy (1048576) x0∧szSy (1048576) x0≤1048576:=szSy_bd _ _ ⟨by decide,by decide⟩;obtain ⟨oo,hoo⟩:∃ oo,ordV x0 most=oo:=⟨_,rfl⟩;have HOO:=Zh hoo;have HLA:=Zh (fun a v'=>(show Lz v0 x0 most PA0 pn0 pc0 PB0 pm0 pd0 a v'=Lz v0 x0 most PA0 pn0 pc0 PB0 pm0 pd0 a v' from rfl));clear hoo;refine wpS_cons ?_;simp only [lz0,bodyZ,Tryz.f4,Option.getD_some,litZ];go_wp2_with fail;refine wpS_cons ?_;simp only [lz1,bodyZ,Tryz.f4,Option.getD_some];go_wp2_with fail;refine wpS_cons ?_;simp only [lz2,bodyZ,Tryz.f4,Option.getD_some];go_wp2_with fail
 (with_reducible refine (c_szSystem (by (first | (first | (with_reducible exact RawI.mk (RJ.ext (Hid.out (by with_reducible assumption)) extX))) | (with_reducible exact RawSy.mk (RJ.ext (Hid.out (by with_reducible assumption)) extX) (RRJ.ext (Hid.out (by with_reducible assumption)) extX)) | (with_reducible exact RawSig.mk (RJ.ext (Hid.out (by with_reducible assumption)) extX)))) Zo Zo).mono ?_);rintro e w1 ⟨rfl,hE1⟩;have hz1:=Zs hE1;obtain ⟨hc1,hf1⟩:=bcell hE1;(try have hq1_0:w.heap.size < w1.heap.size:=Zo);go_wp2_with fail;refine wpS_cons ?_;simp only [lz3,bodyZ,Tryz.f4,Option.getD_some];go_wp2_with fail
 .exact .inr ⟨trivial,rfl,rfl,HH.out.trans (Hx.ext extX)⟩
 have q0:0≤szSy (1048576) x0:=by first | (with_reducible assumption) | omega
 have HZ1:=Zh (And.intro (HZ0.out.1.ri (by have:=szSy_ok Zo q0;have:=HL0.out.1;omega)) (HZ0.out.2.rr (by have:=(szSy_ok Zo q0).2.1;have:=HL0b.out.1;omega) (fun r hr=>by have:=(szSy_ok Zo q0).2.2 r hr;omega)));have H0:=Zh (HJ0.out.ri (by have:=szSy_ok Zo q0;have:=HL0.out.1;omega));have H0b:=Zh (HJ0b.out.rr (by have:=(szSy_ok Zo q0).2.1;have:=HL0b.out.1;omega) (fun r hr=>by have:=(szSy_ok Zo q0).2.2 r hr;omega));refine wpS_cons ?_;simp only [lz5,bodyZ,Tryz.f4,Option.getD_some];go_wp2_with fail
 (with_reducible refine (c_toSystem z1q15).mono ?_);rintro e w2 ⟨A2,n2,c2,B2,m2,rfl,hR2,hS2,hE2⟩;have HR2:=Zh hR2;have HS2:=Zh hS2;clear hR2 hS2;have hz2:=Zs hE2;obtain ⟨hc2,hf2⟩:=bcell hE2;(try have hq2_0:w.heap.size < w2.heap.size:=Zo);go_wp2_with fail
 (with_reducible refine (c_sOrderFor HOO.out z1q15).mono ?_);rintro e w4 ⟨rfl,hE4⟩;have hz4:=Zs hE4;obtain ⟨hc4,hf4⟩:=bcell hE4;(try have hq4_0:w.heap.size < w4.heap.size:=Zo);go_wp2_with fail;refine wpS_cons ?_;simp only [lz6,bodyZ,Tryz.f4,Option.getD_some];go_wp2_with fail
 (with_reducible refine (c_toSystem z1q15).mono ?_);rintro e w5 ⟨A5,n5,c5,B5,m5,rfl,hR5,hS5,hE5⟩;have HR5:=Zh hR5;have HS5:=Zh hS5;clear hR5 hS5;go_wp2_with fail;refine wpS_nil ?_;clear b0 HLA HL0 HL0b HJ0 HJ0b HZ0;refine .inl ⟨rfl,rfl,HH.out.trans (Hx.ext extX),w.heap.size,w5.heap.size,A5,n5,c5,B5,m5,m5,rfl,rfl,?_,?_,by rw [HOO.out];rfl,rfl,by simp [go_sem],by simp [go_sem],RI.ext HR5.out extX,RR.ext HS5.out extX,HZ1.out.1,HZ1.out.2⟩
 .exact Ext.keep (extX:Ext (w.alloc (.cells #[.slice PA0 pn0 pc0,.slice PB0 pm0 pd0] 51)) _) (by simp [go_sem])
 .exact Ext.keep (extX:Ext (w.alloc (.cells #[.slice PA0 pn0 pc0,.slice PB0 pm0 pd0] 51)) _) (by simp [go_sem])
theorem chunkZC (h:Lz v0 x0 most PA0 pn0 pc0 PB0 pm0 pd0 a w∧a.tmps[8]?=some (.int .i64 (ordV x0 most))) (hd:a.defers=[]) :
 lzC.wp Tryz.prog (fun e a' v'=>(e=.normal∧False)∨(e=.ret∧Rz v0 a' v')) a w:=by
 obtain ⟨⟨hsz,hH,q2,q7,A5,n5,c5,B5,m5,d5,e1,e2,bx0,bx1,e6,e7,by0,by1,hA5,hB5,hP1,hP2⟩,e8⟩:=h;obtain ⟨oo,hoo⟩:∃ oo,ordV x0 most=oo:=⟨_,rfl⟩;rw [hoo] at e6 e8;clear hoo;obtain ⟨tm,df⟩:=a;simp only at hd hsz e1 e2 e6 e7 e8;subst hd;obtain ⟨tv0,tv1,tv2,tv3,tv4,tv5,tv6,tv7,tv8,tv9,tv10,tv11,tv12,tv13,tv14,tv15,tv16,tv17,tv18,tv19,tv20,tv21,tv22,tv23,tv24,tv25,tv26,tv27,tv28,tv29,tv30,hTm⟩:=lit31 hsz;subst hTm;simp at e1 e2 e6 e7 e8;subst e1;subst e2;subst e6;subst e7;subst e8;have HH:=Zh hH;have HR5:=Zh hA5;have HS5:=Zh hB5;have H0:=Zh (hP1.hx hH);have H0b:=Zh (hP2.hx hH);clear hA5 hB5 hP1 hP2 hH hsz;simp only [lzC,bodyZ,Tryz.f4,Option.getD_some];go_wp2_with fail;refine wp_region_inv Zk Zk (fun a0 S a w'=>∃ u26 u27 u28 u29 u30:Value,a=(((((a0.put (some 26) u26).put (some 27) u27).put (some 28) u28).put (some 29) u29).put (some 30) u30)∧Ext w w'∧(S 0=true→u26=.agg #[.slice A5 n5 c5,.slice B5 m5 d5])∧(S 1=true→u27=.agg #[.slice PA0 pn0 pc0,.slice PB0 pm0 pd0])∧(S 2=true→RdSyC w' u28 x0)∧(S 3=true→u29=.bool true)∧(S 4=true→u30=.bool false)) ?_ ?_ ?_
 .intro S hS;exact ⟨tv26,tv27,tv28,tv29,tv30,by simp only [Act.put,Zl],Ext.drew (Ext.refl _),fun h=>absurd ((hS 0 (by decide)).symm.trans h) (by decide),fun h=>absurd ((hS 1 (by decide)).symm.trans h) (by decide),fun h=>absurd ((hS 2 (by decide)).symm.trans h) (by decide),fun h=>absurd ((hS 3 (by decide)).symm.trans h) (by decide),fun h=>absurd ((hS 4 (by decide)).symm.trans h) (by decide)⟩
 .refine ⟨?_,?_,?_,?_,?_,trivial⟩
  .refine StepInv.plain rfl fun S a w' K hdep hI hK0=>?_;obtain ⟨u26,u27,u28,u29,u30,ha,hE',p0,p1,p2,p3,p4⟩:=hI;simp only [Act.put,Zl] at ha;subst ha;have hK:=Zh hK0;clear hK0;clear hdep;have k0:=Ext.keep hE' bx0;have k1:=Ext.keep hE' bx1;have k2:=Ext.keep hE' by0;have k3:=Ext.keep hE' by1;go_wp2_with fail;exact hK.out _ _ ⟨.agg #[.slice A5 n5 c5,.slice B5 m5 d5],u27,u28,u29,u30,by simp only [Act.put,Zl],extX,fun _=>rfl,fun h=>(p1 (by simpa using h)),fun h=>(p2 (by simpa using h)),fun h=>(p3 (by simpa using h)),fun h=>(p4 (by simpa using h))⟩
  .refine StepInv.plain rfl fun S a w' K hdep hI hK0=>?_;obtain ⟨u26,u27,u28,u29,u30,ha,hE',p0,p1,p2,p3,p4⟩:=hI;simp only [Act.put,Zl] at ha;subst ha;have hK:=Zh hK0;clear hK0;clear hdep;have k0:=Ext.keep hE' bx0;have k1:=Ext.keep hE' bx1;have k2:=Ext.keep hE' by0;have k3:=Ext.keep hE' by1;go_wp2_with fail;exact hK.out _ _ ⟨u26,.agg #[.slice PA0 pn0 pc0,.slice PB0 pm0 pd0],u28,u29,u30,by simp only [Act.put,Zl],extX,fun h=>(p0 (by simpa using h)),fun _=>rfl,fun h=>(p2 (by simpa using h)),fun h=>(p3 (by simpa using h)),fun h=>(p4 (by simpa using h))⟩
  .refine StepInv.plain rfl fun S a w' K hdep hI hK0=>?_;obtain ⟨u26,u27,u28,u29,u30,ha,hE',p0,p1,p2,p3,p4⟩:=hI;simp only [Act.put,Zl] at ha;subst ha;have hK:=Zh hK0;clear hK0;have d1:=p1 (hdep ⟨1,Ground.data⟩ (by simp) rfl);obtain rfl:=d1;clear hdep;have k0:=Ext.keep hE' bx0;have k1:=Ext.keep hE' bx1;have k2:=Ext.keep hE' by0;have k3:=Ext.keep hE' by1;go_wp2_with (go_at_call 18;(with_reducible refine (c_toSystem z1q15).mono ?_);intro e w'' hr;obtain ⟨v,rfl,hr,hE''⟩:=hr.out)
   exact hK.out _ _ ⟨u26,.agg #[.slice PA0 pn0 pc0,.slice PB0 pm0 pd0],v,u29,u30,by simp only [Act.put,Zl],extX,fun h=>(p0 (by simpa using h)),fun _=>rfl,fun _=>hr,fun h=>(p3 (by simpa using h)),fun h=>(p4 (by simpa using h))⟩
  .refine StepInv.plain rfl fun S a w' K hdep hI hK0=>?_;obtain ⟨u26,u27,u28,u29,u30,ha,hE',p0,p1,p2,p3,p4⟩:=hI;simp only [Act.put,Zl] at ha;subst ha;have hK:=Zh hK0;clear hK0;have d0:=p0 (hdep ⟨0,Ground.data⟩ (by simp) rfl);obtain rfl:=d0;have d2:=p2 (hdep ⟨2,Ground.data⟩ (by simp) rfl);clear hdep;have k0:=Ext.keep hE' bx0;have k1:=Ext.keep hE' bx1;have k2:=Ext.keep hE' by0;have k3:=Ext.keep hE' by1;go_wp2_with (go_at_call 19;(with_reducible refine (c_eqSystem_self z1q15 z1q15).mono ?_);rintro e w'' ⟨rfl,hE''⟩)
   exact hK.out _ _ ⟨.agg #[.slice A5 n5 c5,.slice B5 m5 d5],u27,u28,.bool true,u30,by simp only [Act.put,Zl],extX,fun _=>rfl,fun h=>(p1 (by simpa using h)),fun _=>d2.ext extX,fun _=>rfl,fun h=>(p4 (by simpa using h))⟩
  .refine StepInv.plain rfl fun S a w' K hdep hI hK0=>?_;obtain ⟨u26,u27,u28,u29,u30,ha,hE',p0,p1,p2,p3,p4⟩:=hI;simp only [Act.put,Zl] at ha;subst ha;have hK:=Zh hK0;clear hK0;have d3:=p3 (hdep ⟨3,Ground.data⟩ (by simp) rfl);obtain rfl:=d3;clear hdep;have k0:=Ext.keep hE' bx0;have k1:=Ext.keep hE' bx1;have k2:=Ext.keep hE' by0;have k3:=Ext.keep hE' by1;go_wp2_with fail;exact hK.out _ _ ⟨u26,u27,u28,.bool true,.bool false,by simp only [Act.put,Zl],extX,fun h=>(p0 (by simpa using h)),fun h=>(p1 (by simpa using h)),fun h=>(p2 (by simpa using h)),fun _=>rfl,fun _=>rfl⟩
 intro S a w2 hS hI;obtain ⟨u26,u27,u28,u29,u30,ha,hE2,p0,p1,p2,p3,p4⟩:=hI;simp only [Act.put,Zl] at ha;subst ha;have r2_0:=p0 (hS 0 (by decide));clear p0;obtain rfl:=r2_0;have r2_1:=p1 (hS 1 (by decide));clear p1;obtain rfl:=r2_1;have r2_2:=p2 (hS 2 (by decide));clear p2;have r2_3:=p3 (hS 3 (by decide));clear p3;obtain rfl:=r2_3;have r2_4:=p4 (hS 4 (by decide));clear p4;obtain rfl:=r2_4;clear hS;go_wp2_with fail;exact ⟨rfl,rfl,HH.out.trans (Hx.ext extX)⟩
end
theorem run_ldZ (a:Act) (w:World) (o:Oper) (q n c m d:Nat) (A B:Option Addr) (hop:o.op=.load 32 (.tmp 7)) (hx:a.eval (.tmp 7)=.pointer (some ⟨q,0,none⟩)) (h:w.cell? ⟨q,0,none⟩=some (.slice A n c)) (h1:w.cell? ⟨q,1,none⟩=some (.slice B m d)):(execOp a.eval o).run Tryz.prog w=.ok (.value (.agg #[.slice A n c,.slice B m d])) w:=by
 simp only [Act.eval,Array.getD_eq_getD_getElem?] at hx;unfold execOp;simp only [hop];simp [go_sem,hx,h,h1]
theorem bZ:(base 4).kind=.normal:=rfl
theorem bZe:(base 4).kind≠.early:=by simp [base]
theorem bZn:∃ f,Tryz.prog.funcs[(base 4).fn]?=some f:=⟨_,Tryz.func4⟩
theorem tres_Z:TmpRes Tryz.f4:=tmpB_ok (P:=Tryz.prog) (k:=4) Zk _ Tryz.func4
theorem okZ {m:Nat}:∀ c∈[lz0,lz1,lz2,lz3,lz5,lz6,lzC],CodeOK Tryz.prog (LM m) c:=by
 intro c hc;simp only [List.mem_cons,List.not_mem_nil,or_false] at hc;rcases hc with rfl | rfl | rfl | rfl | rfl | rfl | rfl<;>exact codeB_ok (fun _ h=>h) (fun _ h=>h) Zk
theorem leaveZ {a:Act} {y:Value} (h:a.tmps[4]?=some y) (u:World):(results Tryz.f4 a.tmps).run Tryz.prog u=.ok y u:=by
 rw [results_tmp (fn:=Tryz.f4) (t:=4) rfl];simp [h]
section
variable {m:Nat} {A:An} {Post:Value→World→Prop} {x0:Sy} {most:Int} {PA0 PB0:Option Addr} {pn0 pc0 pm0 pd0:Nat} {Stop:Set_→Goroutine→World→Prop} {k:List Item}
theorem ret_z (post:∀ γ v w O,Hx A.v v→WRel (LM m) γ v w→Acc A.O A.β A.v A.w O γ v w→Post (.bool true) w) (hS:∀ O g w,AtEnd_ Tryz.prog Post g w→Stop O g w) :
 WkR Tryz.prog (LM m) true Stop A (base 4) [] (Rz A.v):=by
 refine WkR.done (fn:=Tryz.f4) bZ Zk Tryz.func4 tres_Z hS (R:=fun x v=>x=.bool true∧Hx A.v v) (fun a v h=>⟨.bool true,leaveZ h.2.1,rfl,h.2.2⟩) (fun γ x y v w O h hxy hW hn hA=>?_);obtain ⟨rfl,hH⟩:=h;have:y=.bool true:=by
  generalize hx:Value.bool true=x at hxy
  cases hxy<;>cases hx
  rfl
 subst this;exact post γ v w O hH hW hA
theorem callZ (hn:Wk Tryz.prog (LM m) true (fun _ g w=>AtEnd_ Tryz.prog Post g w) A (base 4) [] k (fun a v=>Lz A.v x0 most PA0 pn0 pc0 PB0 pm0 pd0 a v∧a.tmps[8]?=some (.int .i64 (ordV x0 most)))) :
 Wk Tryz.prog (LM m) true (ScrS Tryz.prog Post 1) A (base 4) [] (.code lz7 :: k) (Lz A.v x0 most PA0 pn0 pc0 PB0 pm0 pd0):=by
 simp only [lz7,bodyZ,Tryz.f4,Option.getD_some];refine Wk.reg (l:=[0,1,2,3]) rfl ?_;refine Wk.op (X m) bZe rfl (d:=some 20) rfl (xtmp (m:=m) 7) (fun a v τ d h=>h) (Ψ:=fun a v=>Lz A.v x0 most PA0 pn0 pc0 PB0 pm0 pd0 a v∧∃ A5 n5 c5 B5 m5 d5,a.tmps[20]?=some (Value.agg #[Value.slice A5 n5 c5,Value.slice B5 m5 d5])∧RI v A5 n5 x0.ar∧RR true v B5 m5 x0.rs) (fun a v h _=>?_) ?_
 .have h':=h;obtain ⟨h0,h1,q2,q7,A5,n5,c5,B5,m5,d5,k1,k2,k3,k4,k5,k6,k7,k8,k9,k10,_⟩:=h;exact ⟨Zr,.inl ⟨_,_,run_ldZ a v _ q7 _ _ _ _ _ _ rfl (eval_tmp k6) k7 k8,h'.put (by decide) (by decide) (by decide) (by decide),A5,n5,c5,B5,m5,d5,by rw [put_get,if_pos rfl,if_pos (by rw [h0];decide)],k9,k10⟩⟩
 refine Wk.mv (X m) bZe rfl (.inl rfl) rfl (d:=some 21) rfl (xtmp 1) (Ψ:=fun a v=>Lz A.v x0 most PA0 pn0 pc0 PB0 pm0 pd0 a v∧(∃ A5 n5 c5 B5 m5 d5,a.tmps[20]?=some (Value.agg #[Value.slice A5 n5 c5,Value.slice B5 m5 d5])∧RI v A5 n5 x0.ar∧RR true v B5 m5 x0.rs)∧a.tmps[21]?=some (.int .i64 most)) (fun a v h=>?_) ?_
 .obtain ⟨h1,A5,n5,c5,B5,m5,d5,k1,k2⟩:=h;have e1:a.tmps[1]?=some (.int .i64 most):=by obtain ⟨_,_,_,_,_,_,_,_,_,_,k1,_⟩:=h1;exact k1
  exact ⟨h1.put (by decide) (by decide) (by decide) (by decide),⟨A5,n5,c5,B5,m5,d5,by rw [put_get,if_neg (by decide),k1],k2⟩,by rw [put_get,if_pos rfl,if_pos (by rw [h1.sz];decide),eval_tmp e1]⟩
 intro γ ag a v w O hp k2 k3 k4 k5 k6 k7;obtain ⟨hLa,⟨A5,n5,c5,B5,m5,d5,h28,hri,hrr⟩,h29⟩:=hp;refine co_into bZe rfl rfl rfl Tryz.func15 Zr (c:=bodyO) rfl (fun x hx=>by simp at hx;rcases hx with rfl | rfl<;>exact trivial) k2 k3 k4 k5 k6 ?_;refine (or_wk (A:=⟨O,γ,v,w⟩) (s:=x0) (most:=most) (Post:=Post) ?_).mono fun a' v' h=>?_
 .intro γ2 x y v2 w2 O2 hout hxy hW2 hN2 hA2;rw [Frame.finish_at];obtain ⟨rfl,hH⟩:=hout;have hz:=hLa.sz;refine Wk.use (Φ:=fun a v'=>Lz A.v x0 most PA0 pn0 pc0 PB0 pm0 pd0 a v'∧a.tmps[22]?=some (.int .i64 (ordV x0 most))) (ag:=ag.put (some 22) (.int .i64 (ordV x0 most))) ⟨(hLa.hx hH).put (by decide) (by decide) (by decide) (by decide),by rw [put_get,if_pos rfl,if_pos (by rw [hz];decide)]⟩ (by rw [put_defers,k2]) (by rw [put_defers,k3]) ((k4.mono hA2.le).put _ hxy) hW2 hN2 (k7.trans hA2) ?_;exact Wk.mv (X m) bZe rfl (.inr rfl) rfl (d:=some 8) rfl (xtmp 22) (fun a v h=>⟨h.1.put (by decide) (by decide) (by decide) (by decide),by rw [put_get,if_pos rfl,if_pos (by rw [h.1.sz];decide),eval_tmp h.2]⟩) (Wk.regionEnd hn)
 .obtain ⟨rfl,rfl⟩:=h;refine ⟨A5,n5,c5,B5,m5,d5,?_,hri,hrr,Hx.refl _⟩;have e:(#[Operand.tmp 20,.tmp 21].map ag.eval)=#[.agg #[.slice A5 n5 c5,.slice B5 m5 d5],.int .i64 most]:=by simp [eval_tmp h28,eval_tmp h29]
  show Act.mk (_++_) []=_;rw [e];show Act.mk (_++Array.replicate (Tryz.f15.ntmps - 2) undef) []=_;rw [Tryz.ntmps15];exact congrArg (fun t=>Act.mk t []) (litO_eq _ _).symm
theorem lawZ_wk (hJ:RJ A.v PA0 pn0 x0.ar) (hK:RRJ A.v PB0 pm0 x0.rs) (post:∀ γ v w O,Hx A.v v→WRel (LM m) γ v w→Acc A.O A.β A.v A.w O γ v w→Post (.bool true) w) :
 Wk Tryz.prog (LM m) true (ScrS Tryz.prog Post 1) A (base 4) [] [.code bodyZ] (fun a v=>a=litZ (.agg #[.slice PA0 pn0 pc0,.slice PB0 pm0 pd0]) (.int .i64 most)∧Hx A.v v):=by
 rw [bodyZ_eq];refine Wk.codes (pcs:=[lz0,lz1,lz2,lz3,lz5,lz6]) (X m) (offs_scr 1) (fun c hc=>okZ c (by simp at hc ⊢;rcases hc with rfl | rfl | rfl | rfl | rfl | rfl<;>simp)) bZ bZn (Ψ:=Lz A.v x0 most PA0 pn0 pc0 PB0 pm0 pd0) (Ρ:=Rz A.v) (fun a v τ d h=>h) (fun a v τ d h=>h) (fun a v τ d h=>h) (fun a v h hd=>?_) ?_ (ret_z post fun _ _ _=>.inl)
 .obtain ⟨rfl,hH⟩:=h;exact chunkZ hH hJ hK
 refine Wk.seq (callZ ?_);exact Wk.code (X m) offs_end (okZ _ (by simp)) bZ bZn (Ψ:=fun _ _=>False) (Ρ:=Rz A.v) (fun a v τ d h=>h) Ins.f (fun a v τ d h=>h) (fun a v h hd=>chunkZC h hd) (fun γ ag a v w O hp=>hp.elim) (ret_z post fun _ _ _ h=>h)
end
theorem lawZ_script {W:World} {v0 v1:Value} {x0:Sy} {x1:Int} (h:RawG W v0 x0) (h1:RawN W v1 x1):Script_ Tryz.prog (fun v w=>v=.bool true∧Below W.heap.size W w) 2 (fun x=>x < W.heap.size) (G (Frame.enter Tryz.prog 4 #[v0,v1] .normal) []) W:=by
 obtain ⟨m,v,PA0,pn0,pc0,PB0,pm0,pd0,rfl,hv,hm,hW,hJ,hK⟩:=start_ghost h;obtain ⟨rfl,_⟩:=h1;rw [enter_at _ Tryz.func4 (c:=bodyZ) rfl];refine lawZ_wk (m:=m) (A:=⟨fun x=>x < W.heap.size,bet0 W,v,W⟩) hJ hK (fun γ v' w O hH hW' hA=>⟨rfl,real_end hm hW hW' hH hA⟩) (bet0 W) (litZ (.agg #[.slice PA0 pn0 pc0,.slice PB0 pm0 pd0]) (.int .i64 x1)) _ v W (fun x=>x < W.heap.size) ⟨rfl,Hx.refl _⟩ rfl rfl ?_ hW (fun k x e=>?_) (Acc.refl _ _ _ _)
 .rw [litZ_eq];refine VsRel.append ((VsRel.one hv).append (VsRel.one (.int .i64 x1))) ⟨by simp [Tryz.ntmps4],fun i v w h1 h2=>?_⟩;have e1:=Array.mem_of_getElem? h1;have e2:=Array.mem_of_getElem? h2;rw [(Array.mem_replicate.1 e1).2,(Array.mem_replicate.1 e2).2];exact undef_rel
 .obtain ⟨rfl,d,T,f,e⟩:=bet0_inv e;exact lt_of_heap e

