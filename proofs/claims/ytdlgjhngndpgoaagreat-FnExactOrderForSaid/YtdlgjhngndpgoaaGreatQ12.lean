/- -/
import Derived.Test.YtdlgjhngndpgoaaGreatQ11
import Derived.StillTailTactics
set_option maxRecDepth 100000
set_option maxHeartbeats 16000000
set_option linter.all false
namespace Go.Proofs.YtdlgjhngndpgoaaGreat
open Go.RowKit
theorem arI_neg {ar:List Int} {x:Int} (h:x < 0):arI ar x=some 0:=by unfold arI;rw [if_pos h]
theorem arI_none {ar:List Int} {x:Int} (h:(ar.length:Int)≤x):arI ar x=none:=by unfold arI;rw [if_neg (by omega),if_neg (by omega)]
theorem arI_at {ar:List Int} {x n:Int} (hx:0≤x) (h:ar[x.toNat]?=some n):arI ar x=some n.toNat:=by
 have:=(List.getElem?_eq_some_iff.1 h).1;unfold arI;rw [if_neg (by omega),if_pos (by omega),List.getD_eq_getElem?_getD,h];rfl
theorem c_arityAt {v:Value} {ar:List Int} {x:Int} {a:Nat} {w:World} (h0:RdSig w v ar) (hs:SigP ar) (h:arI ar x=some a) :
 Calls Tryz.prog 138 #[v,.int .i64 x] w fun e w'=>e=.returned (.int .i64 a)∧Ext w w':=by
 obtain ⟨A,n,c,rfl,ha⟩:=h0;by_cases hx:x < 0
 .rw [arI_neg hx] at h;cases h;go_enter Tryz.func138,Tryz.ntmps138;go_wp2;go_ret;exact ⟨rfl,extX⟩
 .by_cases hl:(ar.length:Int)≤x
  .rw [arI_none hl] at h;cases h
  .obtain ⟨q,rfl⟩:=Int.eq_ofNat_of_zero_le (show 0≤x by omega);have hqn:q < n:=by rw [← ha.len];omega
   obtain ⟨b,o,y,rfl,hy,hcy⟩:=RI.at_ ha hqn;rw [arI_at (by omega) (by rw [Int.toNat_natCast];exact hy)] at h;have hy2:=hs.2.2 y (List.mem_of_getElem? hy);have hyt:(y.toNat:Int)=y:=by omega
   cases h;have HY:=Lib.hid hyt;have hqi:(q:Int) < (n:Int):=by omega
   have hbl:b < w.heap.size:=World.block_lt_of_cell? w _ hcy;clear hyt hy hs hx hl;go_enter Tryz.func138,Tryz.ntmps138;go_wp2;go_ret;exact ⟨ret_int HY.out.symm,extX⟩
structure Cur (w:World) (g:Nat) (A:Option Addr) (n c:Nat) (B:Option Addr) (m d:Nat) (p:Nat):Prop where
 c0:w.cell? ⟨g,0,none⟩=some (.slice A n c)
 c1:w.cell? ⟨g,1,none⟩=some (.slice B m d)
 c2:w.cell? ⟨g,2,none⟩=some (.int .i64 p)
 fr:∀ i,w.frozen? ⟨g,i,none⟩=false
theorem Cur.ext {w w':World} {g:Nat} {A:Option Addr} {n c:Nat} {B:Option Addr} {m d p:Nat} (h:Cur w g A n c B m d p) (k:Ext w w'):Cur w' g A n c B m d p:=
 ⟨Ext.keep k h.c0,Ext.keep k h.c1,Ext.keep k h.c2,fun i=>(Below.frozen (p:=⟨g,i,none⟩) k (show g < w.heap.size from World.block_lt_of_cell? w _ h.c0)).trans (h.fr i)⟩
theorem Cur.lt {w:World} {g:Nat} {A:Option Addr} {n c:Nat} {B:Option Addr} {m d p:Nat} (h:Cur w g A n c B m d p):g < w.heap.size:=World.block_lt_of_cell? w _ h.c0
abbrev Only (w w':World) (g:Nat):Prop:=w.grownBy w' (some g)
theorem Only.refl (w:World) (g:Nat):Only w w g:=World.grownBy.refl w _
theorem Only.trans {a b c:World} {g:Nat} (h:Only a b g) (k:Only b c g):Only a c g:=
 ⟨k.os.trans h.os,k.tape.trans h.tape,k.output.trans h.output,Nat.le_trans h.size k.size,fun i hi hne=>(k.block i (Nat.lt_of_lt_of_le hi h.size) hne).trans (h.block i hi hne)⟩
theorem Only.of_ext {a b:World} (h:Ext a b) (g:Nat):Only a b g:=⟨h.os,h.tape,h.output,h.size,fun i hi _=>h.block i hi⟩
theorem Only.setCell (w:World) (g i:Nat) (v:Value):Only w (w.setCell ⟨g,i,none⟩ v) g:=
 ⟨rfl,rfl,rfl,by simp [World.setCell],fun k hk hne=>Below.heap_setCell w ⟨g,i,none⟩ v k (fun e=>hne (by rw [e]))⟩
theorem Only.ext {a w w':World} {g:Nat} (h:Only w w' g) (ha:Ext a w) (hg:a.heap.size≤g):Ext a w':=Ext.grown ha h (fun k hk=>by cases hk;exact hg)
theorem RI.only {w w':World} {g:Nat} {A:Option Addr} {n:Nat} {xs:List Int} (h:RI w A n xs) (k:Only w w' g) (hg:∀ b o s,A=some ⟨b,o,s⟩→0 < n→b≠g):RI w' A n xs:=
 ⟨h.1,fun hn=>by
  obtain ⟨b,o,hA,hc⟩:=h.2 hn;refine ⟨b,o,hA,fun j x hx=>?_⟩;have h1:=hc j x hx;exact (World.cell?_of_block (k.block b (World.block_lt_of_cell? w _ h1) (fun e=>by injection e with e;exact hg b o none hA hn e))).trans h1⟩
theorem c_next_end {g p:Nat} {A B:Option Addr} {n c m d:Nat} {w:World} (hc:Cur w g A n c B m d p) (hm:m≤4194304) (hpm:p=m) :
 Calls Tryz.prog 144 #[.pointer (some ⟨g,0,none⟩)] w fun e w'=>e=.returned (.int .i64 (-1))∧Ext w w':=by
 obtain ⟨c0,c1,c2,fr⟩:=hc;subst hpm;go_enter Tryz.func144,Tryz.ntmps144;go_wp2;go_quiet (fail)
 go_wp2;go_ret;exact ⟨rfl,extX⟩
theorem c_next_bad {g p:Nat} {A B:Option Addr} {n c m d:Nat} {ar t:List Int} {x:Int} {w:World} (hc:Cur w g A n c B m d p) (ha:RI w A n ar) (hb:RI w B m t) (hx:t[p]?=some x) (hbad:(ar.length:Int)≤x) :
 Calls Tryz.prog 144 #[.pointer (some ⟨g,0,none⟩)] w fun e w'=>e=.returned (.int .i64 (-1))∧Ext w w':=by
 obtain ⟨c0,c1,c2,fr⟩:=hc;have hpm:p < m:=by have:=(List.getElem?_eq_some_iff.1 hx).1;rw [hb.len] at this;exact this
 obtain ⟨b,o,y,rfl,hy,hcy⟩:=RI.at_ hb hpm;rw [hx] at hy;cases hy;have hd:decide ((m:Int)≤(p:Int))=false:=by simp;omega
 have hd2:decide ((n:Int)≤x)=true:=by rw [← ha.len];simpa using hbad
 have hp0:(0:Int)≤(p:Int):=by omega
 have hpi:(p:Int) < (m:Int):=by omega
 clear hx hbad ha hb;go_enter Tryz.func144,Tryz.ntmps144;go_wp2;go_quiet (fail)
 go_wp2;go_ret;exact ⟨rfl,extX⟩
theorem c_next_ok {g p a:Nat} {A B:Option Addr} {n c m d:Nat} {ar t:List Int} {x:Int} {w:World} (hc:Cur w g A n c B m d p) (ha:RI w A n ar) (hb:RI w B m t) (hs:SigP ar) (hx:t[p]?=some x) (hok:arI ar x=some a)
 (hga:∀ b o s,A=some ⟨b,o,s⟩→0 < n→b≠g) (hgb:∀ b o s,B=some ⟨b,o,s⟩→0 < m→b≠g) :
 Calls Tryz.prog 144 #[.pointer (some ⟨g,0,none⟩)] w fun e w'=>e=.returned (.int .i64 a)∧Cur w' g A n c B m d (p+1)∧Only w w' g:=by
 have HC:=Lib.hid hc;obtain ⟨c0,c1,c2,fr⟩:=hc;have hm:=hb.le;have hpm:p < m:=by have:=(List.getElem?_eq_some_iff.1 hx).1;rw [hb.len] at this;exact this
 obtain ⟨b,o,y,rfl,hy,hcy⟩:=RI.at_ hb hpm;rw [hx] at hy;cases hy;have hxn:x < (n:Int):=by
  rw [← ha.len];apply Classical.byContradiction;intro h;rw [arI_none (by omega)] at hok;cases hok
 have hd:decide ((m:Int)≤(p:Int))=false:=by simp;omega
 have hd2:decide ((n:Int)≤x)=false:=by simp;omega
 have hp0:(0:Int)≤(p:Int):=by omega
 have hpi:(p:Int) < (m:Int):=by omega
 have hbg:b≠g:=hgb b o none rfl (by omega);have HA:=Lib.hid ha;have HS:=Lib.hid hs;have HOK:=Lib.hid hok;have HGA:=Lib.hid hga;clear hx ha hb hs hok hga hgb;go_enter Tryz.func144,Tryz.ntmps144;go_wp2;go_quiet (fail)
 go_wp2_with fail;have hO1:Only w ((w.drewN nq).setCell ⟨g,2,none⟩ (.int .i64 ((p:Int)+1))) g:=Only.trans (Only.of_ext (Ext.drewN (Ext.refl _) _) g) (Only.setCell (w.drewN nq) g 2 _)
 have hC1:Cur ((w.drewN nq).setCell ⟨g,2,none⟩ (.int .i64 ((p:Int)+1))) g A n c (some ⟨b,o,none⟩) m d (p+1):=
  ⟨by rw [World.cell?_setCell_other _ _ _ _ (by simp)];exact c0,by rw [World.cell?_setCell_other _ _ _ _ (by simp)];exact c1,World.cell?_setCell_same _ _ _ c2,fun i=>by rw [World.frozen?_setCell];exact fr i⟩
 have hcy1:((w.drewN nq).setCell ⟨g,2,none⟩ (.int .i64 ((p:Int)+1))).cell? ⟨b,o+p,none⟩=some (.int .i64 x):=by rw [World.cell?_setCell_other _ _ _ _ (by simp;try (intro e;exact absurd e.symm hbg))];exact hcy
 generalize (w.drewN nq).setCell ⟨g,2,none⟩ (.int .i64 ((p:Int)+1))=W at hO1 hC1 hcy1 ⊢
 clear c0 c1 c2 fr hcy;have HC1:=Lib.hid hC1;obtain ⟨c0,c1,c2,fr⟩:=hC1;have c3:W.cell? ⟨g,2,none⟩=some (.int .i64 ((p:Int)+1)):=c2;clear c2;have hw1:IntKind.i64.wrap (p:Int)=(p:Int):=IntWalk.i64_in _ (by omega);go_still_tail 15,(by kernel_rfl)
 change wpList _ _ _ _ _ W.drew
 have hE1:Ext W W.drew:=extX;go_wp2_with (go_at_call 138;(with_reducible refine (c_arityAt (ar:=ar) (RdSig.mk (RI.ext (HA.out.only hO1 HGA.out) hE1)) HS.out HOK.out).mono ?_);rintro e w2 ⟨rfl,hE2⟩)
 go_ret;have hE3:Ext W w2:=Ext.trans hE1 hE2;exact ⟨rfl,HC1.out.ext hE3,hO1.trans (Only.of_ext hE3 g)⟩
def posAt (w:World) (g:Nat):Nat:=match w.cell? ⟨g,2,none⟩ with | some v=>(intOf v).toNat | none=>0
theorem Cur.pos {w:World} {g:Nat} {A:Option Addr} {n c:Nat} {B:Option Addr} {m d p:Nat} (h:Cur w g A n c B m d p):posAt w g=p:=by
 unfold posAt;rw [h.c2];simp [intOf]
theorem c_skip {g p0:Nat} {A B:Option Addr} {n c m d:Nat} {ar t:List Int} {w:World} (hc:Cur w g A n c B m d p0) (ha:RI w A n ar) (hb:RI w B m t) (hs:SigP ar) (hp:p0≤t.length)
 (hga:∀ b o s,A=some ⟨b,o,s⟩→0 < n→b≠g) (hgb:∀ b o s,B=some ⟨b,o,s⟩→0 < m→b≠g) :
 Calls Tryz.prog 137 #[.pointer (some ⟨g,0,none⟩)] w fun e w'=>Only w w' g∧((endI ar t p0 = -1∧e=.returned (.bool false))∨∃ q:Nat,endI ar t p0=q∧e=.returned (.bool true)∧Cur w' g A n c B m d q):=by
 have hm:=hb.le;have hl:=hb.len;have HC:=Lib.hid hc;have HA:=Lib.hid ha;have HB:=Lib.hid hb;have HS:=Lib.hid hs;have HGA:=Lib.hid hga;have HGB:=Lib.hid hgb;have HP:=Lib.hid hp;have HL:=Lib.hid hl;clear hc ha hb hs hga hgb hp hl;go_enter Tryz.func137,Tryz.ntmps137;go_wp2;go_loopw [3] (fun i wr=>∃ p nd:Nat,i=.int .i64 nd∧nd≤1+3 * p∧Hid (ScanAt (arI ar) t p0 p nd)∧Only w wr g∧Hid (Cur wr g A n c B m d p)) (fun _ wr=>m+1 - posAt wr g)
 case atStart=>exact ⟨p0,1,rfl,by omega,ScanAt.start HP.out,Only.refl _ _,HC.out⟩
 case round=>
  obtain ⟨p,nd,rfl,hnd,hsc,hO,hcur⟩:=hrel;have hpl:p≤m:=by have:=hsc.out.2.1;rw [HL.out] at this;exact this
  rcases nd with _ | nd
  .go_wp2;go_ret;exact ⟨hO,.inr ⟨p,hsc.out.done,rfl,hcur.out⟩⟩
  .have hA1:=HA.out.only hO HGA.out;have hB1:=HB.out.only hO HGB.out;have HA1:=Lib.hid hA1;have HB1:=Lib.hid hB1;clear hA1 hB1;by_cases hpm:p=m
   .have HPM:=Lib.hid hpm;clear hpm;go_wp2_with (go_at_call 144;(with_reducible refine (c_next_end hcur.out hm HPM.out).mono ?_);rintro e w2 ⟨rfl,hE2⟩)
    go_ret;exact ⟨hO.trans (Only.of_ext hE2 g),.inl ⟨hsc.out.out (by rw [HPM.out,HL.out]),rfl⟩⟩
   .have hx:t[p]?=some (t[p]'(by rw [HL.out];omega)):=List.getElem?_eq_getElem _
    generalize t[p]'(by rw [HL.out];omega)=x at hx
    have HX:=Lib.hid hx;clear hx;rcases hf:arI ar x with _ | a
    .have HF:=Lib.hid hf;clear hf;have hbad:(ar.length:Int)≤x:=by
      apply Classical.byContradiction;intro h;have hf:=HF.out;unfold arI at hf;by_cases h0:x < 0
      .rw [if_pos h0] at hf;cases hf
      .rw [if_neg h0,if_pos (by omega)] at hf;cases hf
     have HBD:=Lib.hid hbad;clear hbad;go_wp2_with (go_at_call 144;(with_reducible refine (c_next_bad hcur.out HA1.out HB1.out HX.out HBD.out).mono ?_);rintro e w2 ⟨rfl,hE2⟩)
     go_ret;exact ⟨hO.trans (Only.of_ext hE2 g),.inl ⟨hsc.out.bad HX.out HF.out,rfl⟩⟩
    .have ha3:=arI_le HS.out hf;have HF:=Lib.hid hf;clear hf;go_wp2_with (go_at_call 144;(with_reducible refine (c_next_ok hcur.out HA1.out HB1.out HS.out HX.out HF.out HGA.out HGB.out).mono ?_);rintro e w2 ⟨rfl,hC2,hO2⟩)
     go_roundw
     case rel=>exact ⟨p+1,nd+a,by go_num,by omega,hsc.out.step HX.out HF.out,hO.trans hO2,hC2⟩
     case measure=>
      rw [hC2.pos,hcur.out.pos];omega
theorem c_endAt {v0 v1:Value} {ar t:List Int} {p:Int} {w:World} (h0:RdSig w v0 ar) (h1:RdI w v1 t) (hs:SigP ar) (hp0:0≤p) (hp:p≤t.length) :
 Calls Tryz.prog 119 #[v0,v1,.int .i64 p] w fun e w'=>e=.returned (.int .i64 (endI ar t p.toNat))∧Ext w w':=by
 obtain ⟨p0,rfl⟩:=Int.eq_ofNat_of_zero_le hp0;rw [Int.toNat_natCast];have hp:p0≤t.length:=by omega
 clear hp0;obtain ⟨A,n,c,rfl,ha⟩:=h0;obtain ⟨B,m,d,rfl,hb⟩:=h1;have hbA:∀ b o s,A=some ⟨b,o,s⟩→0 < n→b≠w.heap.size+1:=by
  intro b o s e hn;obtain ⟨b',o',x,e',_,hc⟩:=RI.at_ ha hn;rw [e] at e';cases e';have:=World.block_lt_of_cell? w _ hc;have h2:b < w.heap.size:=this;omega
 have hbB:∀ b o s,B=some ⟨b,o,s⟩→0 < m→b≠w.heap.size+1:=by
  intro b o s e hn;obtain ⟨b',o',x,e',_,hc⟩:=RI.at_ hb hn;rw [e] at e';cases e';have h2:b < w.heap.size:=World.block_lt_of_cell? w _ hc;omega
 have HA:=Lib.hid ha;have HB:=Lib.hid hb;have HS:=Lib.hid hs;have HP:=Lib.hid hp;have HBA:=Lib.hid hbA;have HBB:=Lib.hid hbB;clear ha hb hs hp hbA hbB;go_enter Tryz.func119,Tryz.ntmps119;go_wp2_with fail
 (with_reducible refine (c_skip (g:=w.heap.size+1) (A:=A) (n:=n) (c:=c) (B:=B) (m:=m) (d:=d) (p0:=p0) (ar:=ar) (t:=t) ?_ (RI.ext HA.out ?_) (RI.ext HB.out ?_) HS.out HP.out HBA.out HBB.out).mono ?_)
 .exact ⟨by simp [go_sem],by simp [go_sem],by simp [go_sem],fun i=>by simp [go_sem]⟩
 .exact extX
 .exact extX
 rintro e w2 ⟨hO,h | h⟩
 .obtain ⟨he,rfl⟩:=h;have HE:=Lib.hid he;clear he;have hE2:Ext w w2:=Only.ext hO extX (by omega);go_wp2;go_ret;exact ⟨ret_int HE.out.symm,hE2⟩
 .obtain ⟨q,he,rfl,hcur⟩:=h;have HE:=Lib.hid he;clear he;have hE2:Ext w w2:=Only.ext hO extX (by omega);obtain ⟨c0,c1,c2,fr⟩:=hcur;go_wp2;go_ret;exact ⟨ret_int HE.out.symm,hE2⟩
end Go.Proofs.YtdlgjhngndpgoaaGreat
namespace Go.Proofs.YtdlgjhngndpgoaaGreat
inductive Tm where
 | node (x:Int) (as1:List Tm)
mutual
def Tm.flat:Tm→List Int
 | .node x as1=>x :: flatL as1
def flatL:List Tm→List Int
 | []=>[]
 | a :: as1=>a.flat++flatL as1
end
mutual
def Tm.Ok (ar:List Int):Tm→Prop
 | .node x as1=>arI ar x=some as1.length∧OkL ar as1
def OkL (ar:List Int):List Tm→Prop
 | []=>True
 | a :: as1=>a.Ok ar∧OkL ar as1
end
theorem flatL_nil:flatL []=[]:=by simp only [flatL]
theorem flatL_cons (a:Tm) (as1:List Tm):flatL (a :: as1)=a.flat++flatL as1:=by simp only [flatL]
theorem flat_node (x:Int) (as1:List Tm):(Tm.node x as1).flat=x :: flatL as1:=by simp only [Tm.flat]
theorem Ok_node {ar:List Int} {x:Int} {as1:List Tm}:(Tm.node x as1).Ok ar↔arI ar x=some as1.length∧OkL ar as1:=by simp only [Tm.Ok]
theorem OkL_cons {ar:List Int} {a:Tm} {as1:List Tm}:OkL ar (a :: as1)↔a.Ok ar∧OkL ar as1:=by simp only [OkL]
theorem OkL_iff {ar:List Int}:∀ {as1:List Tm},OkL ar as1↔∀ a∈as1,a.Ok ar
 | []=>by simp [OkL]
 | a :: as1=>by rw [OkL_cons,OkL_iff];simp
theorem flatL_append:∀ (as1 bs:List Tm),flatL (as1++bs)=flatL as1++flatL bs
 | [],bs=>by simp [flatL_nil]
 | a :: as1,bs=>by rw [List.cons_append,flatL_cons,flatL_cons,flatL_append,List.append_assoc]
theorem flat_pos (u:Tm):1≤u.flat.length:=by cases u;rw [flat_node];simp
mutual
theorem scan_flat {ar:List Int}:∀ (u:Tm),u.Ok ar→∀ (rest:List Int) (nd:Nat),scan (arI ar) (u.flat++rest) (nd+1)=(scan (arI ar) rest nd).map (· + u.flat.length)
 | .node x as1,h,rest,nd=>by
  obtain ⟨h1,h2⟩:=Ok_node.1 h;rw [flat_node,List.cons_append,scan_cons_some h1,scan_flatL as1 h2,Option.map_map]
  congr 1
theorem scan_flatL {ar:List Int}:∀ (as1:List Tm),OkL ar as1→∀ (rest:List Int) (nd:Nat),scan (arI ar) (flatL as1++rest) (nd+as1.length)=(scan (arI ar) rest nd).map (· + (flatL as1).length)
 | [],_,rest,nd=>by simp [flatL_nil]
 | a :: as1,h,rest,nd=>by
  obtain ⟨h1,h2⟩:=OkL_cons.1 h;rw [flatL_cons,List.append_assoc,List.length_cons,← Nat.add_assoc,scan_flat a h1,scan_flatL as1 h2,Option.map_map]
  congr 1
  funext k
  simp only [Function.comp,List.length_append];omega
end
theorem parse {ar:List Int}:∀ {t:List Int} {nd k:Nat},scan (arI ar) t nd=some k→∃ us,OkL ar us∧us.length=nd∧t.take k=flatL us∧k=(flatL us).length
 | t,0,k,h=>by rw [scan_zero] at h;cases h;exact ⟨[],by simp [OkL],rfl,by simp [flatL_nil],by simp [flatL_nil]⟩
 | [],nd+1,k,h=>by cases h
 | x :: xs,nd+1,k,h=>by
  rcases hf:arI ar x with _ | a
  .rw [scan_cons_none hf] at h;cases h
  .rw [scan_cons_some hf] at h;obtain ⟨k',hk',rfl⟩:=Option.map_eq_some_iff.1 h;obtain ⟨us,h1,h2,h3,h4⟩:=parse hk';have h1':=OkL_iff.1 h1;refine ⟨.node x (us.take a) :: us.drop a,?_,?_,?_,?_⟩
   .rw [OkL_cons];refine ⟨Ok_node.2 ⟨by rw [hf,List.length_take,Nat.min_eq_left (by omega)],OkL_iff.2 fun b hb=>h1' b (List.mem_of_mem_take hb)⟩,OkL_iff.2 fun b hb=>h1' b (List.mem_of_mem_drop hb)⟩
   .rw [List.length_cons,List.length_drop];omega
   .rw [flatL_cons,flat_node,List.cons_append,← flatL_append,List.take_append_drop,List.take_succ_cons,h3]
   .rw [flatL_cons,flat_node,List.cons_append,← flatL_append,List.take_append_drop,List.length_cons,h4]
theorem tree_of {ar t:List Int} (h:TermP ar t):∃ u:Tm,u.Ok ar∧u.flat=t:=by
 obtain ⟨us,h1,h2,h3,_⟩:=parse h.2.2.2;rw [List.take_length] at h3
 match us,h2 with
 | [u],_=>exact ⟨u,(OkL_cons.1 h1).1,by rw [h3,flatL_cons,flatL_nil,List.append_nil]⟩
theorem endI_flat {ar t rest:List Int} {p:Nat} {u:Tm} (hu:u.Ok ar) (h:t.drop p=u.flat++rest):endI ar t p=(p+u.flat.length:Nat):=by
 unfold endI endF;rw [h,show (1:Nat)=0+1 from rfl,scan_flat u hu,scan_zero];simp
theorem arI_lt {ar:List Int} {x:Int} {a:Nat} (h:arI ar x=some a):x < ar.length:=by
 unfold arI at h;by_cases h0:x < 0
 .omega
 .rw [if_neg h0] at h;by_cases h1:x < ar.length
  .exact h1
  .rw [if_neg h1] at h;cases h
mutual
theorem flat_lt {ar:List Int}:∀ (u:Tm),u.Ok ar→∀ x∈u.flat,x < ar.length
 | .node x as1,h,y,hy=>by
  obtain ⟨h1,h2⟩:=Ok_node.1 h;rw [flat_node] at hy;rcases List.mem_cons.1 hy with rfl | hy
  .exact arI_lt h1
  .exact flatL_lt as1 h2 y hy
theorem flatL_lt {ar:List Int}:∀ (as1:List Tm),OkL ar as1→∀ x∈flatL as1,x < ar.length
 | [],_,y,hy=>by rw [flatL_nil] at hy;cases hy
 | a :: as1,h,y,hy=>by
  obtain ⟨h1,h2⟩:=OkL_cons.1 h;rw [flatL_cons] at hy;rcases List.mem_append.1 hy with hy | hy
  .exact flat_lt a h1 y hy
  .exact flatL_lt as1 h2 y hy
end
def starts:Nat→List Tm→List Int
 | _,[]=>[]
 | p,a :: as1=>(p:Int) :: starts (p+a.flat.length) as1
theorem starts_len:∀ (p:Nat) (as1:List Tm),(starts p as1).length=as1.length
 | _,[]=>rfl
 | p,a :: as1=>by rw [starts,List.length_cons,starts_len,List.length_cons]
theorem starts_append:∀ (p:Nat) (as1 bs:List Tm),starts p (as1++bs)=starts p as1++starts (p+(flatL as1).length) bs
 | p,[],bs=>by simp [starts,flatL_nil]
 | p,a :: as1,bs=>by rw [List.cons_append,starts,starts,starts_append,flatL_cons,List.length_append,Nat.add_assoc];rfl
theorem starts_get {p k:Nat} {as1:List Tm} (h:k < as1.length):(starts p as1)[k]?=some ((p+(flatL (as1.take k)).length:Nat):Int):=by
 obtain ⟨a,ha⟩:∃ a,as1.drop k=a :: as1.drop (k+1):=⟨as1[k],List.drop_eq_getElem_cons h⟩;have e:as1=as1.take k++(a :: as1.drop (k+1)):=by rw [← ha,List.take_append_drop]
 conv=>lhs;rw [e]
 rw [starts_append,List.getElem?_append_right (by rw [starts_len,List.length_take];omega),starts_len,List.length_take,Nat.min_eq_left (by omega),Nat.sub_self,starts]
 rfl
theorem drop_arg {t rest:List Int} {p k:Nat} {x:Int} {as1:List Tm} {a:Tm} (h:t.drop p=(Tm.node x as1).flat++rest) (hk:as1[k]?=some a) :
 t.drop (p+1+(flatL (as1.take k)).length)=a.flat++(flatL (as1.drop (k+1))++rest):=by
 obtain ⟨hl,rfl⟩:=List.getElem?_eq_some_iff.1 hk;have e:flatL as1=flatL (as1.take k)++(as1[k].flat++flatL (as1.drop (k+1))):=by
  rw [← flatL_cons,← List.drop_eq_getElem_cons hl,← flatL_append,List.take_append_drop]
 rw [← List.drop_drop,← List.drop_drop,h,flat_node,List.cons_append,List.drop_succ_cons,List.drop_zero,e,List.append_assoc,List.append_assoc,List.drop_left]
mutual
theorem flat_inj {ar:List Int}:∀ (u v:Tm),u.Ok ar→v.Ok ar→∀ r r',u.flat++r=v.flat++r'→u=v∧r=r'
 | .node x as1,.node y bs,hu,hv,r,r',e=>by
  obtain ⟨h1,h2⟩:=Ok_node.1 hu;obtain ⟨h3,h4⟩:=Ok_node.1 hv;rw [flat_node,flat_node,List.cons_append,List.cons_append] at e;injection e with e1 e2
  subst e1;rw [h1] at h3;injection h3 with h3
  obtain ⟨h5,h6⟩:=flatL_inj as1 bs h2 h4 h3 r r' e2;exact ⟨by rw [h5],h6⟩
theorem flatL_inj {ar:List Int}:∀ (as1 bs:List Tm),OkL ar as1→OkL ar bs→as1.length=bs.length→∀ r r',flatL as1++r=flatL bs++r'→as1=bs∧r=r'
 | [],[],_,_,_,r,r',e=>by rw [flatL_nil] at e;exact ⟨rfl,by simpa using e⟩
 | [],b :: bs,_,_,hl,_,_,_=>by simp at hl
 | a :: as1,[],_,_,hl,_,_,_=>by simp at hl
 | a :: as1,b :: bs,ha,hb,hl,r,r',e=>by
  obtain ⟨h1,h2⟩:=OkL_cons.1 ha;obtain ⟨h3,h4⟩:=OkL_cons.1 hb;rw [flatL_cons,flatL_cons,List.append_assoc,List.append_assoc] at e;obtain ⟨h5,h6⟩:=flat_inj a b h1 h3 _ _ e;obtain ⟨h7,h8⟩:=flatL_inj as1 bs h2 h4 (by simpa using hl) _ _ h6;exact ⟨by rw [h5,h7],h8⟩
end
theorem flat_inj' {ar:List Int} {u v:Tm} (hu:u.Ok ar) (hv:v.Ok ar) (e:u.flat=v.flat):u=v:=(flat_inj u v hu hv [] [] (by rw [e])).1
theorem mem_flatL_len {a:Tm}:∀ {as1:List Tm},a∈as1→a.flat.length≤(flatL as1).length
 | b :: as1,h=>by
  rw [flatL_cons,List.length_append];rcases List.mem_cons.1 h with rfl | h
  .omega
  .have:=mem_flatL_len h;omega
noncomputable def tmOf (ar t:List Int):Tm:=@Classical.epsilon Tm ⟨.node 0 []⟩ fun u=>u.Ok ar∧u.flat=t
theorem tmOf_flat {ar:List Int} {u:Tm} (hu:u.Ok ar):tmOf ar u.flat=u:=by
 have h:=Classical.epsilon_spec (p:=fun v:Tm=>v.Ok ar∧v.flat=u.flat) ⟨u,hu,rfl⟩;exact flat_inj' h.1 hu h.2
theorem tmOf_ok {ar t:List Int} (h:TermP ar t):(tmOf ar t).Ok ar∧(tmOf ar t).flat=t:=by
 obtain ⟨u,h1,rfl⟩:=tree_of h;rw [tmOf_flat h1];exact ⟨h1,rfl⟩
open Go.RowKit
abbrev OnlyA (w w':World) (A:Option Addr):Prop:=w.grownBy w' (A.map (·.block))
section
variable {a b c w w':World} {A B:Option Addr} {n m cc:Nat} {xs:List Int}
theorem OnlyA.refl (w:World) (A:Option Addr):OnlyA w w A:=World.grownBy.refl w _
theorem OnlyA.trans (h:OnlyA a b A) (k:OnlyA b c A):OnlyA a c A:=
 ⟨k.os.trans h.os,k.tape.trans h.tape,k.output.trans h.output,Nat.le_trans h.size k.size,fun i hi hne=>(k.block i (Nat.lt_of_lt_of_le hi h.size) hne).trans (h.block i hi hne)⟩
theorem OnlyA.of_ext (h:Ext a b) (A:Option Addr):OnlyA a b A:=⟨h.os,h.tape,h.output,h.size,fun i hi _=>h.block i hi⟩
theorem OnlyA.ext (h:OnlyA w w' A) (ha:Ext a w) (hA:∀ g o s,A=some ⟨g,o,s⟩→a.heap.size≤g):Ext a w':=Ext.grown ha h (fun k hk=>by
 cases A with
 | none=>cases hk
 | some p=>cases hk;exact hA _ _ _ rfl)
theorem RI.onlyA (h:RI w B m xs) (k:OnlyA w w' A) (hg:∀ g o s g' o' s',A=some ⟨g,o,s⟩→B=some ⟨g',o',s'⟩→g'≠g):RI w' B m xs:=
 ⟨h.1,fun hn=>by
  obtain ⟨b,o,hB,hc⟩:=h.2 hn;refine ⟨b,o,hB,fun j x hx=>?_⟩;have h1:=hc j x hx;refine (World.cell?_of_block (k.block b (World.block_lt_of_cell? w _ h1) (fun e=>?_))).trans h1;cases A with
  | none=>cases e
  | some p=>simp only [Option.map] at e;injection e with e;exact hg _ _ _ _ _ _ rfl hB e⟩
end
theorem one_cells (w:World) (x:Value) (t:TypeId):∀ (j:Nat) (u:Value),[x][j]?=some u→(w.alloc (.cells #[x] t)).cell? ((⟨w.heap.size,0,none⟩:Addr).add j)=some u:=by
 intro j u hj
 match j,hj with
 | 0,hj=>simp at hj;subst hj;simp [Addr.add,go_sem]
theorem one_one (x:Int):∀ u∈[Value.int .i64 x],u.oneCell'=true:=by intro u hu;simp at hu;subst hu;rfl
def RdIc (w:World) (v:Value) (xs:List Int):Prop:=∃ A n c,v=.slice A n c∧(n≤c∧c≤9223372036854775807)∧RI w A n xs
theorem RdIc.mk {w:World} {A:Option Addr} {n c:Nat} {xs:List Int} (hc:n≤c∧c≤9223372036854775807) (h:RI w A n xs):RdIc w (.slice A n c) xs:=⟨A,n,c,rfl,hc,h⟩
theorem RdIc.ext {w w':World} {v:Value} {xs:List Int} (h:RdIc w v xs) (k:Ext w w'):RdIc w' v xs:=by
 obtain ⟨A,n,c,e,hc,h1⟩:=h;exact ⟨A,n,c,e,hc,h1.ext k⟩
theorem OwI.cap {w:World} {B:Nat} {A:Option Addr} {n c:Nat} {xs:List Int} (h:OwI w B A n c xs):n≤c∧c≤9223372036854775807:=by
 rcases h.2.2 with ⟨hv,hn⟩ | ⟨g,cap,cur,hv,hg,hh,h1,h2,_⟩
 .cases hv;omega
 .cases hv;exact ⟨h1,h2⟩
theorem RI.sub {w:World} {b o n:Nat} {xs ys rest:List Int} {p:Nat} (h:RI w (some ⟨b,o,none⟩) n xs) (hd:xs.drop p=ys++rest):RI w (some ⟨b,o+p,none⟩) ys.length ys:=by
 have hl:ys.length≤n - p:=by
  have:=congrArg List.length hd;rw [List.length_drop,List.length_append,h.len] at this;omega
 refine ⟨⟨rfl,by have:=h.le;omega⟩,fun hn=>⟨b,o+p,rfl,fun j x hx=>?_⟩⟩;obtain ⟨b',o',e,hc⟩:=h.2 (by omega);cases e;have hj:j < ys.length:=(List.getElem?_eq_some_iff.1 hx).1;have e2:xs[p+j]?=some x:=by
  rw [← List.getElem?_drop,hd,List.getElem?_append_left hj];exact hx
 rw [Nat.add_assoc];exact hc _ _ e2
theorem drop_lt {xs ys rest:List Int} {p:Nat} (hd:xs.drop p=ys++rest) (h:1≤ys.length):p+ys.length≤xs.length:=by
 have:=congrArg List.length hd;rw [List.length_drop,List.length_append] at this;omega
theorem drop_head {xs us rest:List Int} {x:Int} {p:Nat} (hd:xs.drop p=(x :: us)++rest):xs[p]?=some x:=by
 have e:(xs.drop p)[0]?=some x:=by rw [hd];rfl
 rwa [List.getElem?_drop,Nat.add_zero] at e
def OwN (w:World) (B:Nat) (A:Option Addr) (n c:Nat) (xs:List Int):Prop:=n≤4194304∧w.ownsRow B 3 1 (.slice A n c) n (xs.map (Value.int .i64))
section
variable {w w':World} {B:Nat} {A:Option Addr} {n c:Nat} {xs:List Int}
theorem OwN.len (h:OwN w B A n c xs):xs.length=n:=by
 have:=h.2.1;simpa using this
theorem OwN.ri (h:OwN w B A n c xs):RI w A n xs:=by
 refine ⟨⟨h.len,h.1⟩,fun hn=>?_⟩;obtain ⟨g,cap,hv,_,hlt⟩:=World.ownsRow.form h.2 hn;cases hv;refine ⟨g,0,rfl,fun j x hx=>?_⟩;have hj:j < n:=by have:=(List.getElem?_eq_some_iff.1 hx).1;rw [h.len] at this;exact this
 have:=World.ownsRow.cellAt h.2 j (by omega);rw [Nat.zero_add,this];simp [hx]
theorem OwN.ext (h:OwN w B A n c xs) (k:Ext w w'):OwN w' B A n c xs:=by
 refine ⟨h.1,h.2.1,?_⟩;rcases h.2.2 with h2 | ⟨g,cap,cur,hv,hg,hh,r⟩
 .exact .inl h2
 .exact .inr ⟨g,cap,cur,hv,hg,(k.block g (Array.getElem?_eq_some_iff.1 hh).1).trans hh,r⟩
theorem OwN.alloc (h:OwN w B A n c xs) (o:Obj):OwN (w.alloc o) B A n c xs:=h.ext (Ext.alloc (Ext.refl _) o)
theorem OwN.ob (h:OwN w B A n c xs):∀ k,(Value.slice A n c).ownBlock=some k→B≤k:=by
 intro k hk;rcases h.2.2 with ⟨hv,_⟩ | ⟨g,cap,cur,hv,hg,_⟩
 .cases hv;cases hk
 .cases hv;cases hk;exact hg
end
theorem c_endAt_flat {v0 v1:Value} {ar t rest:List Int} {p:Nat} {u:Tm} {w:World} (h0:RdSig w v0 ar) (h1:RdI w v1 t) (hs:SigP ar) (hu:u.Ok ar) (hd:t.drop p=u.flat++rest) :
 Calls Tryz.prog 119 #[v0,v1,.int .i64 (p:Int)] w fun e w'=>e=.returned (.int .i64 ((p+u.flat.length:Nat):Int))∧Ext w w':=
 (c_endAt (p:=(p:Int)) h0 h1 hs (by omega) (by have:=drop_lt hd (flat_pos u);omega)).mono fun e w' h=>⟨h.1.trans (ret_int (by rw [Int.toNat_natCast];exact endI_flat hu hd)),h.2⟩
theorem int_info:(Tryz.prog.info? 3).map (fun i=>(i.zero,i.size,i.bytes))=some (some (.int .i64 0),1,8):=by kernel_rfl
theorem mq12 {p:Prop} (h:p:=by simp only [intOf];omega):p:=h
theorem c_argsAtB {v0 v1:Value} {ar t rest:List Int} {p:Nat} {x:Int} {us:List Tm} {w:World} (h0:RdSig w v0 ar) (h1:RdI w v1 t) (hs:SigP ar) (hu:(Tm.node x us).Ok ar) (hd:t.drop p=(Tm.node x us).flat++rest) :
 Calls Tryz.prog 124 #[v0,v1,.int .i64 (p:Int)] w fun e w'=>∃ A n c,e=.returned (.slice A n c)∧n=us.length∧RI w' A n (starts (p+1) us)∧Ext w w'∧∀ b o s,A=some ⟨b,o,s⟩→w.heap.size≤b:=by
 obtain ⟨A,n,c,rfl,ha⟩:=h0;obtain ⟨B,m,d,rfl,hb⟩:=h1;have hm:=hb.le;have hml:=hb.len;have hlt:=drop_lt hd (flat_pos _);rw [hml] at hlt;have hxp:t[p]?=some x:=drop_head (by rw [← flat_node];exact hd);have hfl:(flatL us).length+1=(Tm.node x us).flat.length:=by rw [flat_node];rfl
 obtain ⟨hok,hol⟩:=Ok_node.1 hu;have hal:us.length≤3:=arI_le hs hok;obtain ⟨b,o,y,rfl,hy,hcy⟩:=RI.at_ hb (show p < m by omega);rw [hxp] at hy;cases hy;obtain ⟨i0,hii,hiz,his,hib⟩:=info_parts int_info;have hpm:(p:Int) < (m:Int):=by omega
 have HA:=Lib.hid ha;have HB:=Lib.hid hb;have HS:=Lib.hid hs;have HD:=Lib.hid hd;have HOK:=Lib.hid hok;have HOL:=Lib.hid (OkL_iff.1 hol);clear ha hb hs hd hok hol hxp hu hfl;go_enter Tryz.func124,Tryz.ntmps124;go_wp2_with fail;obtain ⟨wo,hwo⟩:∃ wo,wo=w.alloc (.cells #[.slice A n c] 29):=⟨_,rfl⟩;have hb0:wo.cell? ⟨w.heap.size,0,none⟩=some (.slice A n c):=by rw [hwo];simp [go_sem]
 have hEo:Ext w wo:=by rw [hwo];exact extX
 have hcy2:wo.cell? ⟨b,o+p,none⟩=some (.int .i64 x):=Ext.keep hEo hcy;rw [← hwo];clear hwo hcy;go_still_tail 5,(by kernel_rfl)
 change wpList _ _ _ _ _ wo.drew
 have hE1:Ext w wo.drew:=extX;go_wp2_with (go_at_call 138;(with_reducible refine (c_arityAt (ar:=ar) (RdSig.mk (RI.ext HA.out extX)) HS.out HOK.out).mono ?_);rintro e w2 ⟨rfl,hE2⟩)
 have hb2:w2.cell? ⟨w.heap.size,0,none⟩=some (.slice A n c):=Ext.keep hE2 hb0;have hEw:Ext w w2:=extX;go_loopw [7,8,9] (fun ov nx nn wr=>∃ k:Nat,k≤us.length∧nn=.int .i64 ((us.length:Int) - k)∧(∃ q:Nat,nx=.int .i64 (q:Int)∧Hid (q=p+1+(flatL (us.take k)).length)∧q≤m)∧(∃ A c,ov=.slice A k c∧Hid (OwN wr w2.heap.size A k c (starts (p+1) (us.take k))))∧Ext w2 wr) (fun _ _ nn _=>(intOf nn).toNat)
 case atStart=>exact ⟨0,Nat.zero_le _,by simp,⟨p+1,by go_num,Lib.hid (by simp [flatL_nil]),by omega⟩,⟨none,0,rfl,Lib.hid ⟨by omega,by simp [starts];exact World.ownsRow_nil _ _ _ _⟩⟩,extX⟩
 case round=>
  obtain ⟨k,hk,rfl,⟨q,rfl,hq,hqm⟩,⟨A1,c1,rfl,hO⟩,hE3⟩:=hrel;by_cases hlt2:k < us.length
  .obtain ⟨a,hak⟩:∃ a,us[k]?=some a:=⟨us[k],List.getElem?_eq_getElem hlt2⟩;have hda:=drop_arg HD.out hak;rw [← hq.out] at hda;have hao:=HOL.out a (List.mem_of_getElem? hak);have hqa:=drop_lt hda (flat_pos a);rw [hml] at hqa;have hst:starts (p+1) (us.take (k+1))=starts (p+1) (us.take k)++[(q:Int)]:=by
    rw [take_snoc hak,starts_append,← hq.out];rfl
   have hfk:(flatL (us.take (k+1))).length=(flatL (us.take k)).length+a.flat.length:=by
    rw [take_snoc hak,flatL_append,flatL_cons,flatL_nil,List.append_nil,List.length_append]
   have HDA:=Lib.hid hda;have HAO:=Lib.hid hao;have HST:=Lib.hid hst;have HFK:=Lib.hid hfk;clear hda hao hst hfk hak;go_wp2_with (at_builtin;go_loud (refine wpList_append_lies _ rfl (.tmp 22) (.tmp 24) 158 rfl w2.heap.size 3 i0 (.int .i64 0) 1 8 Tryz.underlying158 hii hiz his hib rfl (by decide) _ _ _ rfl (OwN.alloc hO.out _).2 ⟨wr.heap.size,0,none⟩ 1 1 [.int .i64 (q:Int)] rfl rfl (one_cells _ _ _) (one_one _) (by decide) (by unfold maxLen;omega) (by omega) (by have:=hE3.size;go_size) _ rfl ?_))
   intro g cap wx hown hg hat hltg;have hE4:Ext w2 wx:=Ext.grown (hE3.alloc _) hg (fun k' hk'=>hO.out.ob k' hk');have HW:=Lib.hid (show OwN wx w2.heap.size (some ⟨g,0,none⟩) (k+1) cap (starts (p+1) (us.take (k+1))) from ⟨by omega,by rw [HST.out,List.map_append];exact hown⟩);have hb4:wx.cell? ⟨w.heap.size,0,none⟩=some (.slice A n c):=Ext.keep hE4 hb2;have hEwx:Ext w wx:=extX;clear hown hg hat
   go_wp2_with (go_at_call 119;(with_reducible refine (c_endAt_flat (u:=a) (RdSig.mk (RI.ext HA.out extX)) (RdI.mk (RI.ext HB.out extX)) HS.out HAO.out HDA.out).mono ?_);rintro e w5 ⟨rfl,hE5⟩)
   go_roundw
   case rel=>exact ⟨k+1,by omega,by go_num,⟨q+a.flat.length,rfl,Lib.hid (by rw [HFK.out,hq.out];omega),by omega⟩,⟨_,_,rfl,Lib.hid (HW.out.ext hE5)⟩,extX⟩
   case measure=>exact mq12
  .have hkn:k=us.length:=by omega
   subst hkn;go_wp2;go_ret;exact ⟨_,_,_,rfl,rfl,by have:=hO.out.ri;rwa [List.take_length] at this,extX,fun b o s e=>by subst e;have h1:=hO.out.ob b rfl;have h2:=hEw.size;omega⟩
theorem c_argsAt {v0 v1:Value} {ar t rest:List Int} {p:Nat} {x:Int} {us:List Tm} {w:World} (h0:RdSig w v0 ar) (h1:RdI w v1 t) (hs:SigP ar) (hu:(Tm.node x us).Ok ar) (hd:t.drop p=(Tm.node x us).flat++rest) :
 Calls Tryz.prog 124 #[v0,v1,.int .i64 (p:Int)] w fun e w'=>∃ A n c,e=.returned (.slice A n c)∧n=us.length∧RI w' A n (starts (p+1) us)∧Ext w w':=
 (c_argsAtB h0 h1 hs hu hd).mono fun _ _ ⟨A,n,c,e,h1,h2,h3,_⟩=>⟨A,n,c,e,h1,h2,h3⟩

