/- -/
import Derived.Test.YtdlgjhngndpgoaaGreatQ12
set_option maxRecDepth 100000
set_option maxHeartbeats 16000000
set_option linter.all false
namespace Go.Proofs.YtdlgjhngndpgoaaGreat
open Go.RowKit
def FI (k:Bool) (w:World) (b o:Nat) (xs:List Int):Prop:=∃ A n c,w.cell? ⟨b,o,none⟩=some (.slice A n c)∧(k=true→n≤c∧c≤9223372036854775807)∧RI w A n xs
def FJ (w:World) (b o:Nat) (xs:List Int):Prop:=∃ A n c,w.cell? ⟨b,o,none⟩=some (.slice A n c)∧RJ w A n xs
theorem FI.ext {k:Bool} {w w':World} {b o:Nat} {xs:List Int} (h:FI k w b o xs) (e:Ext w w'):FI k w' b o xs:=by
 obtain ⟨A,n,c,h1,h2,h3⟩:=h;exact ⟨A,n,c,Ext.keep e h1,h2,h3.ext e⟩
theorem FJ.ext {w w':World} {b o:Nat} {xs:List Int} (h:FJ w b o xs) (e:Ext w w'):FJ w' b o xs:=by
 obtain ⟨A,n,c,h1,h3⟩:=h;exact ⟨A,n,c,Ext.keep e h1,h3.ext e⟩
def RR (k:Bool) (w:World) (B:Option Addr) (m:Nat) (rs:List Ru):Prop:=
 (rs.length=m∧m≤4194304)∧(0 < m→∃ b o,B=some ⟨b,o,none⟩∧∀ (j:Nat) (r:Ru),rs[j]?=some r→FI k w b (o+j * 2) r.l∧FI k w b (o+j * 2+1) r.r)
def RRJ (w:World) (B:Option Addr) (m:Nat) (rs:List Ru):Prop:=
 (rs.length=m∧m≤9223372036854775807)∧(0 < m→∃ b o,B=some ⟨b,o,none⟩∧∀ (j:Nat) (r:Ru),rs[j]?=some r→FJ w b (o+j * 2) r.l∧FJ w b (o+j * 2+1) r.r)
section
variable {k:Bool} {w w':World} {B:Option Addr} {m j:Nat} {rs:List Ru}
theorem RR.len (h:RR k w B m rs):rs.length=m:=h.1.1
theorem RR.le (h:RR k w B m rs):m≤4194304:=h.1.2
theorem RR.ext (h:RR k w B m rs) (e:Ext w w'):RR k w' B m rs:=
 ⟨h.1,fun hm=>by
  obtain ⟨b,o,hB,hc⟩:=h.2 hm;exact ⟨b,o,hB,fun j r hr=>⟨(hc j r hr).1.ext e,(hc j r hr).2.ext e⟩⟩⟩
theorem RR.weak (h:RR k w B m rs):RR false w B m rs:=
 ⟨h.1,fun hm=>by
  obtain ⟨b,o,hB,hc⟩:=h.2 hm;refine ⟨b,o,hB,fun j r hr=>?_⟩;obtain ⟨⟨A,n,c,h1,h2,h3⟩,⟨A',n',c',h1',h2',h3'⟩⟩:=hc j r hr;exact ⟨⟨A,n,c,h1,fun h=>(by cases h),h3⟩,⟨A',n',c',h1',fun h=>(by cases h),h3'⟩⟩⟩
theorem RR.at_ (h:RR k w B m rs) (hj:j < m):∃ b o r A n c A' n' c',B=some ⟨b,o,none⟩∧rs[j]?=some r∧w.cell? ⟨b,o+j * 2,none⟩=some (.slice A n c)∧w.cell? ⟨b,o+j * 2+1,none⟩=some (.slice A' n' c') ∧
 RI w A n r.l∧RI w A' n' r.r∧(k=true→n≤c∧c≤9223372036854775807)∧(k=true→n'≤c'∧c'≤9223372036854775807):=by
 obtain ⟨b,o,hB,hc⟩:=h.2 (by omega);have hl:j < rs.length:=by rw [h.len];exact hj
 obtain ⟨⟨A,n,c,h1,h2,h3⟩,⟨A',n',c',h1',h2',h3'⟩⟩:=hc j _ (List.getElem?_eq_getElem hl);exact ⟨b,o,rs[j],A,n,c,A',n',c',hB,List.getElem?_eq_getElem hl,h1,h1',h3,h3',h2,h2'⟩
theorem RRJ.ext (h:RRJ w B m rs) (e:Ext w w'):RRJ w' B m rs:=
 ⟨h.1,fun hm=>by
  obtain ⟨b,o,hB,hc⟩:=h.2 hm;exact ⟨b,o,hB,fun j r hr=>⟨(hc j r hr).1.ext e,(hc j r hr).2.ext e⟩⟩⟩
theorem RRJ.at_ (h:RRJ w B m rs) (hj:j < m):∃ b o r A n c A' n' c',B=some ⟨b,o,none⟩∧rs[j]?=some r∧w.cell? ⟨b,o+j * 2,none⟩=some (.slice A n c)∧w.cell? ⟨b,o+j * 2+1,none⟩=some (.slice A' n' c') ∧
 RJ w A n r.l∧RJ w A' n' r.r:=by
 obtain ⟨b,o,hB,hc⟩:=h.2 (by omega);have hl:j < rs.length:=by rw [h.1.1];exact hj
 obtain ⟨⟨A,n,c,h1,h3⟩,⟨A',n',c',h1',h3'⟩⟩:=hc j _ (List.getElem?_eq_getElem hl);exact ⟨b,o,rs[j],A,n,c,A',n',c',hB,List.getElem?_eq_getElem hl,h1,h1',h3,h3'⟩
theorem RRJ.rr (h:RRJ w B m rs) (hm:m≤4194304) (hp:∀ r∈rs,r.l.length≤4194304∧r.r.length≤4194304):RR false w B m rs:=
 ⟨⟨h.1.1,hm⟩,fun h0=>by
   obtain ⟨b,o,hB,hc⟩:=h.2 h0;refine ⟨b,o,hB,fun j r hr=>?_⟩;obtain ⟨⟨A,n,c,h1,h3⟩,⟨A',n',c',h1',h3'⟩⟩:=hc j r hr;have hb:=hp r (List.mem_of_getElem? hr);exact ⟨⟨A,n,c,h1,fun h=>(by cases h),h3.ri (by rw [← h3.1.1];exact hb.1)⟩,⟨A',n',c',h1',fun h=>(by cases h),h3'.ri (by rw [← h3'.1.1];exact hb.2)⟩⟩⟩
end
def RdSyK (k:Bool) (w:World) (v:Value) (s:Sy):Prop:=∃ A n c B m d,v=.agg #[.slice A n c,.slice B m d]∧RI w A n s.ar∧RR k w B m s.rs
abbrev RdSy:=RdSyK false
abbrev RdSyC:=RdSyK true
theorem RdSyK.ext {k:Bool} {w w':World} {v:Value} {s:Sy} (h:RdSyK k w v s) (e:Ext w w'):RdSyK k w' v s:=by
 obtain ⟨A,n,c,B,m,d,hv,h1,h2⟩:=h;exact ⟨A,n,c,B,m,d,hv,h1.ext e,h2.ext e⟩
theorem RdSyK.weak {k:Bool} {w:World} {v:Value} {s:Sy} (h:RdSyK k w v s):RdSy w v s:=by
 obtain ⟨A,n,c,B,m,d,hv,h1,h2⟩:=h;exact ⟨A,n,c,B,m,d,hv,h1,h2.weak⟩
theorem RdSyK.mk {k:Bool} {w:World} {A B:Option Addr} {n c m d:Nat} {s:Sy} (h1:RI w A n s.ar) (h2:RR k w B m s.rs):RdSyK k w (.agg #[.slice A n c,.slice B m d]) s:=⟨A,n,c,B,m,d,rfl,h1,h2⟩
def RawSy (w:World) (v:Value) (s:Sy):Prop:=∃ A n c B m d,v=.agg #[.slice A n c,.slice B m d]∧RJ w A n s.ar∧RRJ w B m s.rs
theorem RawSy.mk {w:World} {A B:Option Addr} {n c m d:Nat} {s:Sy} (h1:RJ w A n s.ar) (h2:RRJ w B m s.rs):RawSy w (.agg #[.slice A n c,.slice B m d]) s:=⟨A,n,c,B,m,d,rfl,h1,h2⟩
def NewSy (w:World) (s:Sy) (e:Ending) (w':World):Prop:=∃ A n c B m,e=.returned (.agg #[.slice A n c,.slice B m m])∧RI w' A n s.ar∧RR true w' B m s.rs∧Ext w w'
theorem NewSy.out {w w':World} {s:Sy} {e:Ending} (h:NewSy w s e w'):∃ v,e=.returned v∧RdSyC w' v s∧Ext w w':=by
 obtain ⟨A,n,c,B,m,e,h1,h2,h3⟩:=h;exact ⟨_,e,RdSyK.mk h1 h2,h3⟩
def RowG (w:World) (B g:Nat) (cs:Array Value) (k:Nat) (rs:List Ru):Prop:=∀ (j:Nat) (r:Ru),j < k→rs[j]?=some r →
 (∃ A n c,cs[j * 2]?=some (.slice A n c)∧OwI w B A n c r.l∧∀ b o s,A=some ⟨b,o,s⟩→b≠g)∧(∃ A n c,cs[j * 2+1]?=some (.slice A n c)∧OwI w B A n c r.r∧∀ b o s,A=some ⟨b,o,s⟩→b≠g)
theorem RowG.step {w0 w w1:World} {g k:Nat} {cs:Array Value} {rs:List Ru} {r:Ru} {A1 A2:Option Addr} {n1 c1 n2 c2:Nat}
 (hh:w.heap[g]?=some (.cells cs 62 (0,0))) (hG:RowG w w0.heap.size g cs k rs) (hr:rs[k]?=some r) (hsz:k * 2+1 < cs.size)
 (hE:Ext w w1) (hO:OwI w1 w.heap.size A1 n1 c1 r.l) (hP:OwI w1 w.heap.size A2 n2 c2 r.r) (h0:w0.heap.size≤w.heap.size) :
 ((w1.setCell ⟨g,k * 2,none⟩ (.slice A1 n1 c1)).setCell ⟨g,k * 2+1,none⟩ (.slice A2 n2 c2)).heap[g]?=some (.cells ((cs.setIfInBounds (k * 2) (.slice A1 n1 c1)).setIfInBounds (k * 2+1) (.slice A2 n2 c2)) 62 (0,0)) ∧
 RowG ((w1.setCell ⟨g,k * 2,none⟩ (.slice A1 n1 c1)).setCell ⟨g,k * 2+1,none⟩ (.slice A2 n2 c2)) w0.heap.size g ((cs.setIfInBounds (k * 2) (.slice A1 n1 c1)).setIfInBounds (k * 2+1) (.slice A2 n2 c2)) (k+1) rs:=by
 have hg:g < w.heap.size:=(Array.getElem?_eq_some_iff.1 hh).1;have hh1:w1.heap[g]?=some (.cells cs 62 (0,0)):=(hE.block g hg).trans hh;have hb1:=hO.bd;have hb2:=hP.bd;refine ⟨?_,fun j q hj hq=>?_⟩
 .simp [World.setCell,Array.getElem?_modify,hh1]
 .by_cases hjk:j=k
  .subst hjk;rw [hr] at hq;cases hq;refine ⟨⟨A1,n1,c1,?_,?_,?_⟩,⟨A2,n2,c2,?_,?_,?_⟩⟩
   .rw [Array.getElem?_setIfInBounds_ne (by omega),Array.getElem?_setIfInBounds_self_of_lt (by omega)]
   .exact ((hO.lower h0).setFar _ fun b o s e=>by have:=hb1 b o s e;show b≠g;omega).setFar _ fun b o s e=>by have:=hb1 b o s e;show b≠g;omega
   .intro b o s e;have:=hb1 b o s e;omega
   .rw [Array.getElem?_setIfInBounds_self_of_lt (by simpa using hsz)]
   .exact ((hP.lower h0).setFar _ fun b o s e=>by have:=hb2 b o s e;show b≠g;omega).setFar _ fun b o s e=>by have:=hb2 b o s e;show b≠g;omega
   .intro b o s e;have:=hb2 b o s e;omega
  .obtain ⟨⟨A,n,c,h1,h2,h3⟩,⟨A',n',c',h1',h2',h3'⟩⟩:=hG j q (by omega) hq;refine ⟨⟨A,n,c,?_,?_,h3⟩,⟨A',n',c',?_,?_,h3'⟩⟩
   .rw [Array.getElem?_setIfInBounds_ne (by omega),Array.getElem?_setIfInBounds_ne (by omega)];exact h1
   .exact ((h2.ext hE).setFar _ fun b o s e=>h3 b o s e).setFar _ fun b o s e=>h3 b o s e
   .rw [Array.getElem?_setIfInBounds_ne (by omega),Array.getElem?_setIfInBounds_ne (by omega)];exact h1'
   .exact ((h2'.ext hE).setFar _ fun b o s e=>h3' b o s e).setFar _ fun b o s e=>h3' b o s e
theorem RowG.rr {w:World} {B g m:Nat} {cs:Array Value} {rs:List Ru} (hh:w.heap[g]?=some (.cells cs 62 (0,0))) (h:RowG w B g cs m rs) (hl:rs.length=m) (hm:m≤4194304):RR true w (some ⟨g,0,none⟩) m rs:=by
 refine ⟨⟨hl,hm⟩,fun _=>⟨g,0,rfl,fun j r hr=>?_⟩⟩;have hj:j < m:=by have:=(List.getElem?_eq_some_iff.1 hr).1;omega
 obtain ⟨⟨A,n,c,h1,h2,_⟩,⟨A',n',c',h1',h2',_⟩⟩:=h j r hj hr;exact ⟨⟨A,n,c,by rw [Nat.zero_add,cell_of_row w g _ cs _ (0,0) hh];exact h1,fun _=>h2.cap,h2.ri⟩,⟨A',n',c',by rw [Nat.zero_add,cell_of_row w g _ cs _ (0,0) hh];exact h1',fun _=>h2'.cap,h2'.ri⟩⟩
def OwR (w:World) (lo:Nat) (B:Option Addr) (m:Nat) (rs:List Ru):Prop:=
 (rs.length=m∧m≤4194304)∧∃ g cs,B=some ⟨g,0,none⟩∧lo≤g∧w.heap[g]?=some (.cells cs 62 (0,0))∧RowG w lo g cs m rs
theorem OwR.rr {w:World} {lo m:Nat} {B:Option Addr} {rs:List Ru} (h:OwR w lo B m rs):RR true w B m rs:=by
 obtain ⟨h1,g,cs,rfl,_,hh,hG⟩:=h;exact RowG.rr hh hG h1.1 h1.2
theorem OwR.setFar {w:World} {lo m:Nat} {B:Option Addr} {rs:List Ru} {p:Addr} (h:OwR w lo B m rs) (v:Value) (hp:p.block < lo):OwR (w.setCell p v) lo B m rs:=by
 obtain ⟨h1,g,cs,rfl,hl,hh,hG⟩:=h;refine ⟨h1,g,cs,rfl,hl,by rw [Below.heap_setCell _ _ _ _ (by omega)];exact hh,fun j r hj hr=>?_⟩;obtain ⟨⟨A,n,c,e1,e2,e3⟩,⟨A',n',c',e1',e2',e3'⟩⟩:=hG j r hj hr;exact ⟨⟨A,n,c,e1,e2.setFar _ fun b o s e=>by have:=(e2.bd b o s e).1;omega,e3⟩,⟨A',n',c',e1',e2'.setFar _ fun b o s e=>by have:=(e2'.bd b o s e).1;omega,e3'⟩⟩
theorem c_szRule {A A':Option Addr} {n c n' c':Nat} {r:Ru} {left:Int} {w:World} (h0:RJ w A n r.l) (h1:RJ w A' n' r.r) (hl : -1≤left) (hl2:left≤1048576) :
 Calls Tryz.prog 78 #[.agg #[.slice A n c,.slice A' n' c'],.int .i64 left] w fun e w'=>e=.returned (.int .i64 (szRu left r))∧Ext w w':=by
 have HA:=Lib.hid h0;have HB:=Lib.hid h1;clear h0 h1;have h1:=szI_lo left r.l.length;have h2:=szI_le left r.l.length hl;have h3:=szI_lo (szI left r.l.length) r.r.length;go_enter Tryz.func78,Tryz.ntmps78
 go_wp2_with (first
  | (go_at_call 77;(with_reducible refine (c_szInt64S (xs:=r.l) (by (first | (with_reducible exact RawI.mk (RJ.ext (Hid.out (by with_reducible assumption)) extX)))) hl hl2).mono ?_);rintro e w1 ⟨rfl,hE1⟩;have hz1:=sz_of hE1;(try simp only [World.size_alloc,World.size_setCell,World.size_drew] at hz1);obtain ⟨hc1,hf1⟩:=bcell hE1)
  | (go_at_call 77;(with_reducible refine (c_szInt64S (xs:=r.r) (by (first | (with_reducible exact RawI.mk (RJ.ext (Hid.out (by with_reducible assumption)) extX)))) h1 (by omega)).mono ?_);rintro e w2 ⟨rfl,hE2⟩))
 .have hneg:szI left r.l.length < 0:=by assumption
  go_ret;exact ⟨ret_int (szI_neg hneg).symm,extX⟩
 .have hneg:szI (szI left r.l.length) r.r.length < 0:=by assumption
  go_ret;exact ⟨ret_int (by unfold szRu;omega),extX⟩
 .go_ret;exact ⟨rfl,extX⟩
theorem c_szRuleS {A:Option Addr} {n c:Nat} {rs:List Ru} {left:Int} {w:World} (ha:RRJ w A n rs) (hl : -1≤left) (hl2:left≤1048576) :
 Calls Tryz.prog 49 #[.slice A n c,.int .i64 left] w fun e w'=>e=.returned (.int .i64 (szRs left rs))∧Ext w w':=by
 have hn:=ha.1.2;have hlen:=ha.1.1;have HJ:=Lib.hid ha;have HL:=Lib.hid hlen;clear ha hlen;by_cases h:left - n < 0
 .go_enter Tryz.func49,Tryz.ntmps49;go_wp2;go_ret;exact ⟨ret_int (by unfold szRs;rw [HL.out,szI_m1 h,szRsF_m1]),extX⟩
 .have e0:szRs left rs=szRsF (left - n) rs:=by unfold szRs;rw [HL.out,szI_sub (by omega)]
  have E0:=Lib.hid e0;clear e0;go_enter Tryz.func49,Tryz.ntmps49;go_wp2;go_loopw [1,5] (fun x i wr=>∃ k:Nat,i=.int .i64 k∧k≤n∧(∃ y,x=.int .i64 y∧Hid (y=szRsF (left - n) (rs.take k))∧0≤y∧y≤1048576)∧Ext w wr) (fun _ i _=>n - (intOf i).toNat)
  case atStart=>exact ⟨0,rfl,Nat.zero_le _,⟨_,rfl,rfl,by omega,by omega⟩,extX⟩
  case round=>
   obtain ⟨k,rfl,hk,⟨y,rfl,hy,hy0,hy1⟩,hw⟩:=hrel;by_cases hlt:k < n
   .obtain ⟨b,o,r,A1,m1,c1,A2,m2,c2,rfl,hx,hc1,hc2,hr1,hr2⟩:=RRJ.at_ (RRJ.ext HJ.out hw) hlt;have HX:=Lib.hid hx;have HR1:=Lib.hid hr1;have HR2:=Lib.hid hr2;clear hx hr1 hr2;have hlt':(k:Int) < (n:Int):=by omega
    have h1:=szRu_bd y r ⟨by omega,hy1⟩;have h2:=h1.1;have h3:=h1.2;clear h1;have e1:szRu y r=szRsF (left - n) (rs.take (k+1)):=by rw [take_snoc HX.out,szRsF_snoc,hy.out]
    have E1:=Lib.hid e1;clear e1;go_wp2_with (go_at_call 78;(with_reducible refine (c_szRule (r:=r) (left:=y) (RJ.ext HR1.out extX) (RJ.ext HR2.out extX) (by omega) hy1).mono ?_);rintro e w2 ⟨rfl,hE2⟩)
    .have hneg:szRu y r < 0:=by assumption
     go_ret;exact ⟨ret_int (by rw [E0.out,szRsF_neg (k:=k+1) (by rw [← E1.out];omega)]),extX⟩
    .go_roundw
     case rel=>exact ⟨k+1,by go_num,by omega,⟨_,rfl,E1.out,by assumption,h3⟩,extX⟩
     case measure=>simp [intOf];omega
   .go_wp2;go_ret;exact ⟨ret_int (by rw [hy.out,E0.out,List.take_of_length_le (by rw [HL.out];omega)]),extX⟩
theorem c_szSystem {v:Value} {s:Sy} {left:Int} {w:World} (h0:RawSy w v s) (hl : -1≤left) (hl2:left≤1048576) :
 Calls Tryz.prog 16 #[v,.int .i64 left] w fun e w'=>e=.returned (.int .i64 (szSy left s))∧Ext w w':=by
 obtain ⟨A,n,c,B,m,d,rfl,ha,hb⟩:=h0;have HA:=Lib.hid ha;have HB:=Lib.hid hb;clear ha hb;have h1:=szI_lo left s.ar.length;have h2:=szI_le left s.ar.length hl;have h3:=szRs_bd (szI left s.ar.length) s.rs ⟨h1,by omega⟩;have h4:=h3.1;clear h3;go_enter Tryz.func16,Tryz.ntmps16
 go_wp2_with (first
  | (go_at_call 48;(with_reducible refine (c_szSig (xs:=s.ar) (RawSig.mk (RJ.ext HA.out extX)) hl hl2).mono ?_);rintro e w1 ⟨rfl,hE1⟩;have hz1:=sz_of hE1;(try simp only [World.size_alloc,World.size_setCell,World.size_drew] at hz1);obtain ⟨hc1,hf1⟩:=bcell hE1)
  | (go_at_call 49;(with_reducible refine (c_szRuleS (rs:=s.rs) (RRJ.ext HB.out extX) h1 (by omega)).mono ?_);rintro e w2 ⟨rfl,hE2⟩))
 .have hneg:szI left s.ar.length < 0:=by assumption
  go_ret;exact ⟨ret_int (by unfold szSy szRs;rw [szI_neg hneg,szRsF_m1]),extX⟩
 .have hneg:szRs (szI left s.ar.length) s.rs < 0:=by assumption
  go_ret;exact ⟨ret_int (by unfold szSy;omega),extX⟩
 .go_ret;exact ⟨rfl,extX⟩
theorem rule_info:(Tryz.prog.info? 62).map (fun i=>(i.zero,i.size,i.bytes))=some (some (.agg #[.slice none 0 0,.slice none 0 0]),2,48):=by kernel_rfl
theorem z0q13 {p:Prop} (h:p:=by (first | (with_reducible exact RdI.mk (RI.ext (Hid.out (by with_reducible assumption)) extX)) | (with_reducible exact RdI.ext (by with_reducible assumption) extX))):p:=h
theorem c_toRule {A B:Option Addr} {n c m d:Nat} {r:Ru} {w:World} (h0:RI w A n r.l) (h1:RI w B m r.r) :
 Calls Tryz.prog 86 #[.agg #[.slice A n c,.slice B m d]] w fun e w'=>∃ A1 n1 c1 A2 n2 c2,e=.returned (.agg #[.slice A1 n1 c1,.slice A2 n2 c2])∧OwI w' w.heap.size A1 n1 c1 r.l∧OwI w' w.heap.size A2 n2 c2 r.r∧Ext w w':=by
 have HA:=Lib.hid h0;have HB:=Lib.hid h1;clear h0 h1;go_enter Tryz.func86,Tryz.ntmps86
 go_wp2_with (first
  | (go_at_call 85;(with_reducible refine (c_toInt64S (xs:=r.l) z0q13).mono ?_);rintro e w1 ⟨A1,n1,c1,rfl,hO1,hE1⟩;have HA1:=Lib.hid (OwI.bd hO1);have HR1:=Lib.hid (OwI.ri hO1);have HO1:=Lib.hid (OwI.lower (B':=w.heap.size) hO1 (by go_size));clear hO1;have hz1:=sz_of hE1;(try simp only [World.size_alloc,World.size_setCell,World.size_drew] at hz1);obtain ⟨hc1,hf1⟩:=bcell hE1;(try have hq1_0:w.heap.size < w1.heap.size:=by omega);(try have hq1_1:w.heap.size+1 < w1.heap.size:=by omega);(try have hq1_2:w.heap.size+1+1 < w1.heap.size:=by omega))
  | (go_at_call 85;(with_reducible refine (c_toInt64S (xs:=r.r) z0q13).mono ?_);rintro e w2 ⟨A2,n2,c2,rfl,hO2,hE2⟩;have HA2:=Lib.hid (OwI.bd hO2);have HR2:=Lib.hid (OwI.ri hO2);have HO2:=Lib.hid (OwI.lower (B':=w.heap.size) hO2 (by go_size));clear hO2;have hz2:=sz_of hE2;(try simp only [World.size_alloc,World.size_setCell,World.size_drew] at hz2);obtain ⟨hc2,hf2⟩:=bcell hE2;(try have hq2_0:w.heap.size < w2.heap.size:=by omega);(try have hq2_1:w.heap.size+1 < w2.heap.size:=by omega);(try have hq2_2:w.heap.size+1+1 < w2.heap.size:=by omega)))
 refine bodyPost_ret (v:=.agg #[.slice A1 n1 c1,.slice A2 n2 c2]) (by simp [results,Tryz.results86,go_sem,hc1,hc2,hq1_0,hq1_1,hq1_2,hq2_0,hq2_1,hq2_2]) rfl ?_;refine ⟨A1,n1,c1,A2,n2,c2,rfl,?_,?_,?_⟩
 ·(repeat' (first | (with_reducible refine OwI.setFar ?_ _ (far_lt HA1.out ?_)) | (with_reducible refine OwI.alloc ?_ _) | (with_reducible refine OwI.drewN ?_ _) | (with_reducible exact HO1.out) | (with_reducible refine OwI.ext ?_ (by with_reducible assumption)) | (left;go_size) | (right;go_size)))
 ·(repeat' (first | (with_reducible refine OwI.setFar ?_ _ (far_lt HA2.out ?_)) | (with_reducible refine OwI.alloc ?_ _) | (with_reducible refine OwI.drewN ?_ _) | (with_reducible exact HO2.out) | (with_reducible refine OwI.ext ?_ (by with_reducible assumption)) | (left;go_size) | (right;go_size)))
 .exact extX
theorem c_toRuleS {A:Option Addr} {n c:Nat} {rs:List Ru} {w:World} (ha:RR false w A n rs):Calls Tryz.prog 54 #[.slice A n c] w fun e w'=>∃ B,e=.returned (.slice B n n)∧OwR w' w.heap.size B n rs∧Ext w w':=by
 have hn:=ha.le;have HA:=Lib.hid ha;clear ha;obtain ⟨i0,hi0,hz0,hz1,hz2⟩:=info_parts rule_info;go_enter Tryz.func54,Tryz.ntmps54;go_wp2_with (at_make;refine wpList_make_full _ rfl _ _ 30 rfl w.heap.size 62 i0 _ 2 Tryz.underlying30 hi0 hz0 hz1 _ _ _ _ n rfl rfl rfl rfl (by rw [hz2];omega) (by simp only [maxLen];omega) (Nat.le_refl _) ?_)
 intro w1 hown hg;have hE:Ext w w1:=Ext.grown (Ext.refl _) hg (fun k hk=>by cases hk);obtain ⟨cs,hh,hsz⟩:∃ cs,w1.heap[w.heap.size]?=some (.cells cs 62 (0,0))∧cs.size=n * 2:=by
  rcases hown.2 with ⟨h0,_⟩ | ⟨g,cap,cur,hv,_,hh,_,_,hcs,_⟩
  .cases h0
  .cases hv;exact ⟨cur,hh,hcs⟩
 clear hown;go_wp2;go_loopw [4] (fun i wr=>∃ k:Nat,i=.int .i64 k∧k≤n∧Hid (∃ cs,wr.heap[w.heap.size]?=some (.cells cs 62 (0,0))∧cs.size=n * 2∧RowG wr w.heap.size w.heap.size cs k rs)∧Ext w wr) (fun i _=>n - (intOf i).toNat)
 case atStart=>exact ⟨0,rfl,Nat.zero_le _,⟨cs,hh,hsz,fun j p hj=>by omega⟩,hE⟩
 case round=>
  obtain ⟨k,rfl,hk,hT,hw⟩:=hrel;obtain ⟨cs2,hh2,hsz2,hG⟩:=hT.out;clear hT hh hsz;have hgl2:w.heap.size < wr.heap.size:=(Array.getElem?_eq_some_iff.1 hh2).1;by_cases hlt:k < n
  .obtain ⟨b,o,r,A1,m1,c1,A2,m2,c2,rfl,hx,hc1,hc2,hr1,hr2,_,_⟩:=RR.at_ (RR.ext HA.out hw) hlt;have HX:=Lib.hid hx;have HR1:=Lib.hid hr1;have HR2:=Lib.hid hr2;have HH:=Lib.hid hh2;have HG:=Lib.hid hG;have HS:=Lib.hid hsz2;clear hx hr1 hr2 hh2 hG hsz2;have hlt':(k:Int) < (n:Int):=by omega
   go_wp2_with fail
   (with_reducible refine (c_toRule (r:=r) (RI.ext HR1.out extX) (RI.ext HR2.out extX)).mono ?_);rintro e w2 ⟨A3,n3,c3,A4,n4,c4,rfl,hO,hP,hE2⟩;have hh3:w2.heap[w.heap.size]?=some (.cells cs2 62 (0,0)):=(hE2.block _ hgl2).trans HH.out;have hs1:k * 2+1 < cs2.size:=by have:=HS.out;omega
   obtain ⟨z1,ce1⟩:∃ z,w2.cell? ⟨w.heap.size,k * 2,none⟩=some z:=⟨cs2[k * 2]'(by omega),by rw [cell_of_row w2 _ _ cs2 _ (0,0) hh3];exact Array.getElem?_eq_getElem _⟩;obtain ⟨z2,ce2⟩:∃ z,w2.cell? ⟨w.heap.size,k * 2+1,none⟩=some z:=⟨cs2[k * 2+1]'hs1,by rw [cell_of_row w2 _ _ cs2 _ (0,0) hh3];exact Array.getElem?_eq_getElem _⟩;have fe1:∀ i,w2.frozen? ⟨w.heap.size,i,none⟩=false:=fun i=>frozen_of_row w2 _ _ cs2 _ hh3;have hst:=RowG.step (w0:=w) HH.out HG.out HX.out hs1 hE2 hO hP hw.size;have HST:=Lib.hid hst;have HSZ:=Lib.hid (show ((cs2.setIfInBounds (k * 2) (.slice A3 n3 c3)).setIfInBounds (k * 2+1) (.slice A4 n4 c4)).size=n * 2 by simpa using HS.out);clear hst hh3 hs1 hO hP;go_wp2;go_roundw
   case rel=>exact ⟨k+1,by go_num,by omega,⟨_,HST.out.1,HSZ.out,HST.out.2⟩,extX⟩
   case measure=>simp [intOf];omega
  .go_wp2;go_ret;have hkn:k=n:=by omega
   subst hkn;exact ⟨_,rfl,⟨⟨HA.out.len,hn⟩,_,cs2,rfl,Nat.le_refl _,hh2,hG⟩,hw⟩
theorem c_toSystem {v:Value} {s:Sy} {w:World} (h0:RdSy w v s):Calls Tryz.prog 18 #[v] w (NewSy w s):=by
 obtain ⟨A,n,c,B,m,d,rfl,ha,hb⟩:=h0;have HA:=Lib.hid ha;have HB:=Lib.hid hb;clear ha hb;go_enter Tryz.func18,Tryz.ntmps18
 go_wp2_with (first
  | (go_at_call 53;(with_reducible refine (c_toSig (ar:=s.ar) (RdSig.mk (RI.ext HA.out extX))).mono ?_);rintro e w1 ⟨A1,n1,c1,rfl,hO1,hE1⟩;have HA1:=Lib.hid (OwI.bd hO1);have HR1:=Lib.hid (OwI.ri hO1);have HO1:=Lib.hid (OwI.lower (B':=w.heap.size) hO1 (by go_size));clear hO1;have hz1:=sz_of hE1;(try simp only [World.size_alloc,World.size_setCell,World.size_drew] at hz1);obtain ⟨hc1,hf1⟩:=bcell hE1;(try have hq1_0:w.heap.size < w1.heap.size:=by omega);(try have hq1_1:w.heap.size+1 < w1.heap.size:=by omega);(try have hq1_2:w.heap.size+1+1 < w1.heap.size:=by omega))
  | (go_at_call 54;(with_reducible refine (c_toRuleS (rs:=s.rs) (RR.ext HB.out extX)).mono ?_);rintro e w2 ⟨B2,rfl,hR2,hE2⟩;have HR2:=Lib.hid hR2;clear hR2;have hz2:=sz_of hE2;(try simp only [World.size_alloc,World.size_setCell,World.size_drew] at hz2);obtain ⟨hc2,hf2⟩:=bcell hE2;(try have hq2_0:w.heap.size < w2.heap.size:=by omega);(try have hq2_1:w.heap.size+1 < w2.heap.size:=by omega);(try have hq2_2:w.heap.size+1+1 < w2.heap.size:=by omega)))
 refine bodyPost_ret (v:=.agg #[.slice A1 n1 c1,.slice B2 m m]) (by simp [results,Tryz.results18,go_sem,hc1,hc2,hq1_0,hq1_1,hq1_2,hq2_0,hq2_1,hq2_2]) rfl ?_;refine ⟨A1,n1,c1,B2,m,rfl,?_,?_,?_⟩
 .exact OwI.ri (B:=w.heap.size) (c:=c1) (by (repeat' (first | (with_reducible refine OwI.setFar ?_ _ (far_lt HA1.out ?_)) | (with_reducible refine OwI.alloc ?_ _) | (with_reducible refine OwI.drewN ?_ _) | (with_reducible exact HO1.out) | (with_reducible refine OwI.ext ?_ (by with_reducible assumption)) | (left;go_size) | (right;go_size))))
 .obtain ⟨lo,h5,h6⟩:∃ lo,OwR w2 lo B2 m s.rs∧w.heap.size+3≤lo:=⟨_,HR2.out,by simp [go_sem];omega⟩;refine OwR.rr (lo:=lo) ?_
  (repeat' (first | (with_reducible exact h5) | (with_reducible refine OwR.setFar ?_ _ ?_) | (simp;omega)))
 .exact extX
theorem c_eqRule_self {A A' B B':Option Addr} {n c m d n' c' m' d':Nat} {r:Ru} {w:World} (h0:RI w A n r.l) (h1:RI w B m r.r) (h2:RI w A' n' r.l) (h3:RI w B' m' r.r) :
 Calls Tryz.prog 88 #[.agg #[.slice A n c,.slice B m d],.agg #[.slice A' n' c',.slice B' m' d']] w fun e w'=>e=.returned (.bool true)∧Ext w w':=by
 have HA:=Lib.hid h0;have HB:=Lib.hid h1;have HA':=Lib.hid h2;have HB':=Lib.hid h3;clear h0 h1 h2 h3;go_enter Tryz.func88,Tryz.ntmps88
 go_wp2_with (first
  | (go_at_call 87;(with_reducible refine (c_eqInt64S_self (xs:=r.l) z0q13 z0q13).mono ?_);rintro e w1 ⟨rfl,hE1⟩;have hz1:=sz_of hE1;(try simp only [World.size_alloc,World.size_setCell,World.size_drew] at hz1);obtain ⟨hc1,hf1⟩:=bcell hE1)
  | (go_at_call 87;(with_reducible refine (c_eqInt64S_self (xs:=r.r) z0q13 z0q13).mono ?_);rintro e w2 ⟨rfl,hE2⟩;(try have hq2_0:w.heap.size < w2.heap.size:=by omega)))
 all_goals go_ret
 all_goals exact ⟨rfl,extX⟩
theorem c_eqRuleS_self {A B:Option Addr} {n c m d:Nat} {rs:List Ru} {w:World} (ha:RR false w A n rs) (hb:RR false w B m rs) :
 Calls Tryz.prog 56 #[.slice A n c,.slice B m d] w fun e w'=>e=.returned (.bool true)∧Ext w w':=by
 have hn:=ha.le;have hmn:m=n:=by rw [← ha.len,← hb.len]
 subst hmn;have HA:=Lib.hid ha;have HB:=Lib.hid hb;clear ha hb;go_enter Tryz.func56,Tryz.ntmps56;go_wp2;go_loopw [5] (fun i wr=>∃ k:Nat,i=.int .i64 k∧k≤m∧Ext w wr) (fun i _=>m - (intOf i).toNat)
 case atStart=>exact ⟨0,rfl,Nat.zero_le _,extX⟩
 case round=>
  obtain ⟨k,rfl,hk,hw⟩:=hrel;by_cases hlt:k < m
  .obtain ⟨b,o,r,A1,m1,c1,A2,m2,c2,rfl,hx,hc1,hc2,hr1,hr2,_,_⟩:=RR.at_ (RR.ext HA.out hw) hlt;obtain ⟨b',o',r',A3,m3,c3,A4,m4,c4,rfl,hx',hc3,hc4,hr3,hr4,_,_⟩:=RR.at_ (RR.ext HB.out hw) hlt;rw [hx] at hx';cases hx';have HR1:=Lib.hid hr1;have HR2:=Lib.hid hr2;have HR3:=Lib.hid hr3;have HR4:=Lib.hid hr4;clear hx hr1 hr2 hr3 hr4;have hlt':(k:Int) < (m:Int):=by omega
   go_wp2_with fail;go_still_tail 8,(by kernel_rfl)
   change wpList _ _ _ _ _ wr.drew
   have hE1:Ext wr wr.drew:=(Ext.refl wr).drew;go_wp2_with (go_at_call 88;(with_reducible refine (c_eqRule_self (r:=r) (RI.ext HR1.out hE1) (RI.ext HR2.out hE1) (RI.ext HR3.out hE1) (RI.ext HR4.out hE1)).mono ?_);rintro e w2 ⟨rfl,hE2⟩)
   go_roundw
   case rel=>exact ⟨k+1,by go_num,by omega,Ext.trans hw (Ext.trans hE1 hE2)⟩
   case measure=>simp [intOf];omega
  .go_wp2;go_ret;exact ⟨rfl,extX⟩
theorem c_eqSystem_self {k1 k2:Bool} {v v':Value} {s:Sy} {w:World} (h0:RdSyK k1 w v s) (h1:RdSyK k2 w v' s) :
 Calls Tryz.prog 19 #[v,v'] w fun e w'=>e=.returned (.bool true)∧Ext w w':=by
 obtain ⟨A,n,c,B,m,d,rfl,ha,hb⟩:=h0.weak;obtain ⟨A',n',c',B',m',d',rfl,ha',hb'⟩:=h1.weak;have HA:=Lib.hid ha;have HB:=Lib.hid hb;have HA':=Lib.hid ha';have HB':=Lib.hid hb';clear ha hb ha' hb' h0 h1;go_enter Tryz.func19,Tryz.ntmps19
 go_wp2_with (first
  | (go_at_call 55;(with_reducible refine (c_eqSig_self (xs:=s.ar) (RdSig.mk (RI.ext HA.out extX)) (RdSig.mk (RI.ext HA'.out extX))).mono ?_);rintro e w1 ⟨rfl,hE1⟩;have hz1:=sz_of hE1;(try simp only [World.size_alloc,World.size_setCell,World.size_drew] at hz1);obtain ⟨hc1,hf1⟩:=bcell hE1)
  | (go_at_call 56;(with_reducible refine (c_eqRuleS_self (rs:=s.rs) (RR.ext HB.out extX) (RR.ext HB'.out extX)).mono ?_);rintro e w2 ⟨rfl,hE2⟩;(try have hq2_0:w.heap.size < w2.heap.size:=by omega)))
 all_goals go_ret
 all_goals exact ⟨rfl,extX⟩

