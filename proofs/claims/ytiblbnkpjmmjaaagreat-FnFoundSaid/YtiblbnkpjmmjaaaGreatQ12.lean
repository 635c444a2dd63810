/- -/
import Derived.Test.YtiblbnkpjmmjaaaGreatQ11
set_option maxRecDepth 100000
set_option maxHeartbeats 16000000
set_option linter.all false
namespace Go.Proofs.YtiblbnkpjmmjaaaGreat
inductive Tm where
 | node (x:Int) (as1:List Tm)
mutual
def Tm.flat:Tm→List Int
 | .node x as1=>x :: flatL as1
def flatL:List Tm→List Int
 | []=>[]
 | a :: as1=>a.flat++flatL as1
end
mutual
def Tm.Ok (ar:List Int):Tm→Prop
 | .node x as1=>arI ar x=some as1.length∧OkL ar as1
def OkL (ar:List Int):List Tm→Prop
 | []=>True
 | a :: as1=>a.Ok ar∧OkL ar as1
end
theorem flatL_nil:flatL []=[]:=by simp only [flatL]
theorem flatL_cons (a:Tm) (as1:List Tm):flatL (a :: as1)=a.flat++flatL as1:=by simp only [flatL]
theorem flat_node (x:Int) (as1:List Tm):(Tm.node x as1).flat=x :: flatL as1:=by simp only [Tm.flat]
theorem Ok_node {ar:List Int} {x:Int} {as1:List Tm}:(Tm.node x as1).Ok ar↔arI ar x=some as1.length∧OkL ar as1:=by simp only [Tm.Ok]
theorem OkL_cons {ar:List Int} {a:Tm} {as1:List Tm}:OkL ar (a :: as1)↔a.Ok ar∧OkL ar as1:=by simp only [OkL]
theorem OkL_iff {ar:List Int}:∀ {as1:List Tm},OkL ar as1↔∀ a∈as1,a.Ok ar
 | []=>by simp [OkL]
 | a :: as1=>by rw [OkL_cons,OkL_iff];simp
theorem flatL_append:∀ (as1 bs:List Tm),flatL (as1++bs)=flatL as1++flatL bs
 | [],bs=>by simp [flatL_nil]
 | a :: as1,bs=>by rw [List.cons_append,flatL_cons,flatL_cons,flatL_append,List.append_assoc]
theorem flat_pos (u:Tm):1≤u.flat.length:=by cases u;rw [flat_node];simp
mutual
theorem scan_flat {ar:List Int}:∀ (u:Tm),u.Ok ar→∀ (rest:List Int) (nd:Nat),scan (arI ar) (u.flat++rest) (nd+1)=(scan (arI ar) rest nd).map (· + u.flat.length)
 | .node x as1,h,rest,nd=>by
  obtain ⟨h1,h2⟩:=Ok_node.1 h;rw [flat_node,List.cons_append,scan_cons_some h1,scan_flatL as1 h2,Option.map_map]
  congr 1
theorem scan_flatL {ar:List Int}:∀ (as1:List Tm),OkL ar as1→∀ (rest:List Int) (nd:Nat),scan (arI ar) (flatL as1++rest) (nd+as1.length)=(scan (arI ar) rest nd).map (· + (flatL as1).length)
 | [],_,rest,nd=>by simp [flatL_nil]
 | a :: as1,h,rest,nd=>by
  obtain ⟨h1,h2⟩:=OkL_cons.1 h;rw [flatL_cons,List.append_assoc,List.length_cons,← Nat.add_assoc,scan_flat a h1,scan_flatL as1 h2,Option.map_map]
  congr 1
  funext k
  simp only [Function.comp,List.length_append];omega
end
theorem parse {ar:List Int}:∀ {t:List Int} {nd k:Nat},scan (arI ar) t nd=some k→∃ us,OkL ar us∧us.length=nd∧t.take k=flatL us∧k=(flatL us).length
 | t,0,k,h=>by rw [scan_zero] at h;cases h;exact ⟨[],by simp [OkL],rfl,by simp [flatL_nil],by simp [flatL_nil]⟩
 | [],nd+1,k,h=>by cases h
 | x :: xs,nd+1,k,h=>by
  rcases hf:arI ar x with _ | a
  .rw [scan_cons_none hf] at h;cases h
  .rw [scan_cons_some hf] at h;obtain ⟨k',hk',rfl⟩:=Option.map_eq_some_iff.1 h;obtain ⟨us,h1,h2,h3,h4⟩:=parse hk';have h1':=OkL_iff.1 h1;refine ⟨.node x (us.take a) :: us.drop a,?_,?_,?_,?_⟩
   .rw [OkL_cons];refine ⟨Ok_node.2 ⟨by rw [hf,List.length_take,Nat.min_eq_left (by omega)],OkL_iff.2 fun b hb=>h1' b (List.mem_of_mem_take hb)⟩,OkL_iff.2 fun b hb=>h1' b (List.mem_of_mem_drop hb)⟩
   .rw [List.length_cons,List.length_drop];omega
   .rw [flatL_cons,flat_node,List.cons_append,← flatL_append,List.take_append_drop,List.take_succ_cons,h3]
   .rw [flatL_cons,flat_node,List.cons_append,← flatL_append,List.take_append_drop,List.length_cons,h4]
theorem tree_of {ar t:List Int} (h:TermP ar t):∃ u:Tm,u.Ok ar∧u.flat=t:=by
 obtain ⟨us,h1,h2,h3,_⟩:=parse h.2.2.2;rw [List.take_length] at h3
 match us,h2 with
 | [u],_=>exact ⟨u,(OkL_cons.1 h1).1,by rw [h3,flatL_cons,flatL_nil,List.append_nil]⟩
theorem endI_flat {ar t rest:List Int} {p:Nat} {u:Tm} (hu:u.Ok ar) (h:t.drop p=u.flat++rest):endI ar t p=(p+u.flat.length:Nat):=by
 unfold endI endF;rw [h,show (1:Nat)=0+1 from rfl,scan_flat u hu,scan_zero];simp
theorem arI_lt {ar:List Int} {x:Int} {a:Nat} (h:arI ar x=some a):x < ar.length:=by
 unfold arI at h;by_cases h0:x < 0
 .omega
 .rw [if_neg h0] at h;by_cases h1:x < ar.length
  .exact h1
  .rw [if_neg h1] at h;cases h
mutual
theorem flat_lt {ar:List Int}:∀ (u:Tm),u.Ok ar→∀ x∈u.flat,x < ar.length
 | .node x as1,h,y,hy=>by
  obtain ⟨h1,h2⟩:=Ok_node.1 h;rw [flat_node] at hy;rcases List.mem_cons.1 hy with rfl | hy
  .exact arI_lt h1
  .exact flatL_lt as1 h2 y hy
theorem flatL_lt {ar:List Int}:∀ (as1:List Tm),OkL ar as1→∀ x∈flatL as1,x < ar.length
 | [],_,y,hy=>by rw [flatL_nil] at hy;cases hy
 | a :: as1,h,y,hy=>by
  obtain ⟨h1,h2⟩:=OkL_cons.1 h;rw [flatL_cons] at hy;rcases List.mem_append.1 hy with hy | hy
  .exact flat_lt a h1 y hy
  .exact flatL_lt as1 h2 y hy
end
def starts:Nat→List Tm→List Int
 | _,[]=>[]
 | p,a :: as1=>(p:Int) :: starts (p+a.flat.length) as1
theorem starts_len:∀ (p:Nat) (as1:List Tm),(starts p as1).length=as1.length
 | _,[]=>rfl
 | p,a :: as1=>by rw [starts,List.length_cons,starts_len,List.length_cons]
theorem starts_append:∀ (p:Nat) (as1 bs:List Tm),starts p (as1++bs)=starts p as1++starts (p+(flatL as1).length) bs
 | p,[],bs=>by simp [starts,flatL_nil]
 | p,a :: as1,bs=>by rw [List.cons_append,starts,starts,starts_append,flatL_cons,List.length_append,Nat.add_assoc];rfl
theorem starts_get {p k:Nat} {as1:List Tm} (h:k < as1.length):(starts p as1)[k]?=some ((p+(flatL (as1.take k)).length:Nat):Int):=by
 obtain ⟨a,ha⟩:∃ a,as1.drop k=a :: as1.drop (k+1):=⟨as1[k],List.drop_eq_getElem_cons h⟩;have e:as1=as1.take k++(a :: as1.drop (k+1)):=by rw [← ha,List.take_append_drop]
 conv=>lhs;rw [e]
 rw [starts_append,List.getElem?_append_right (by rw [starts_len,List.length_take];omega),starts_len,List.length_take,Nat.min_eq_left (by omega),Nat.sub_self,starts]
 rfl
theorem drop_arg {t rest:List Int} {p k:Nat} {x:Int} {as1:List Tm} {a:Tm} (h:t.drop p=(Tm.node x as1).flat++rest) (hk:as1[k]?=some a) :
 t.drop (p+1+(flatL (as1.take k)).length)=a.flat++(flatL (as1.drop (k+1))++rest):=by
 obtain ⟨hl,rfl⟩:=List.getElem?_eq_some_iff.1 hk;have e:flatL as1=flatL (as1.take k)++(as1[k].flat++flatL (as1.drop (k+1))):=by
  rw [← flatL_cons,← List.drop_eq_getElem_cons hl,← flatL_append,List.take_append_drop]
 rw [← List.drop_drop,← List.drop_drop,h,flat_node,List.cons_append,List.drop_succ_cons,List.drop_zero,e,List.append_assoc,List.append_assoc,List.drop_left]
mutual
theorem flat_inj {ar:List Int}:∀ (u v:Tm),u.Ok ar→v.Ok ar→∀ r r',u.flat++r=v.flat++r'→u=v∧r=r'
 | .node x as1,.node y bs,hu,hv,r,r',e=>by
  obtain ⟨h1,h2⟩:=Ok_node.1 hu;obtain ⟨h3,h4⟩:=Ok_node.1 hv;rw [flat_node,flat_node,List.cons_append,List.cons_append] at e;injection e with e1 e2
  subst e1;rw [h1] at h3;injection h3 with h3
  obtain ⟨h5,h6⟩:=flatL_inj as1 bs h2 h4 h3 r r' e2;exact ⟨by rw [h5],h6⟩
theorem flatL_inj {ar:List Int}:∀ (as1 bs:List Tm),OkL ar as1→OkL ar bs→as1.length=bs.length→∀ r r',flatL as1++r=flatL bs++r'→as1=bs∧r=r'
 | [],[],_,_,_,r,r',e=>by rw [flatL_nil] at e;exact ⟨rfl,by simpa using e⟩
 | [],b :: bs,_,_,hl,_,_,_=>by simp at hl
 | a :: as1,[],_,_,hl,_,_,_=>by simp at hl
 | a :: as1,b :: bs,ha,hb,hl,r,r',e=>by
  obtain ⟨h1,h2⟩:=OkL_cons.1 ha;obtain ⟨h3,h4⟩:=OkL_cons.1 hb;rw [flatL_cons,flatL_cons,List.append_assoc,List.append_assoc] at e;obtain ⟨h5,h6⟩:=flat_inj a b h1 h3 _ _ e;obtain ⟨h7,h8⟩:=flatL_inj as1 bs h2 h4 (by simpa using hl) _ _ h6;exact ⟨by rw [h5,h7],h8⟩
end
theorem flat_inj' {ar:List Int} {u v:Tm} (hu:u.Ok ar) (hv:v.Ok ar) (e:u.flat=v.flat):u=v:=(flat_inj u v hu hv [] [] (by rw [e])).1
theorem mem_flatL_len {a:Tm}:∀ {as1:List Tm},a∈as1→a.flat.length≤(flatL as1).length
 | b :: as1,h=>by
  rw [flatL_cons,List.length_append];rcases List.mem_cons.1 h with rfl | h
  .omega
  .have:=mem_flatL_len h;omega
noncomputable def tmOf (ar t:List Int):Tm:=@Classical.epsilon Tm ⟨.node 0 []⟩ fun u=>u.Ok ar∧u.flat=t
theorem tmOf_flat {ar:List Int} {u:Tm} (hu:u.Ok ar):tmOf ar u.flat=u:=by
 have h:=Classical.epsilon_spec (p:=fun v:Tm=>v.Ok ar∧v.flat=u.flat) ⟨u,hu,rfl⟩;exact flat_inj' h.1 hu h.2
theorem tmOf_ok {ar t:List Int} (h:TermP ar t):(tmOf ar t).Ok ar∧(tmOf ar t).flat=t:=by
 obtain ⟨u,h1,rfl⟩:=tree_of h;rw [tmOf_flat h1];exact ⟨h1,rfl⟩
open Go.RowKit
abbrev OnlyA (w w':World) (A:Option Addr):Prop:=w.grownBy w' (A.map (·.block))
section
variable {a b c w w':World} {A B:Option Addr} {n m cc:Nat} {xs:List Int}
theorem OnlyA.refl (w:World) (A:Option Addr):OnlyA w w A:=World.grownBy.refl w _
theorem OnlyA.trans (h:OnlyA a b A) (k:OnlyA b c A):OnlyA a c A:=
 ⟨k.os.trans h.os,k.tape.trans h.tape,k.output.trans h.output,Nat.le_trans h.size k.size,fun i hi hne=>(k.block i (Nat.lt_of_lt_of_le hi h.size) hne).trans (h.block i hi hne)⟩
theorem OnlyA.of_ext (h:Ext a b) (A:Option Addr):OnlyA a b A:=⟨h.os,h.tape,h.output,h.size,fun i hi _=>h.block i hi⟩
theorem OnlyA.ext (h:OnlyA w w' A) (ha:Ext a w) (hA:∀ g o s,A=some ⟨g,o,s⟩→a.heap.size≤g):Ext a w':=Ext.grown ha h (fun k hk=>by
 cases A with
 | none=>cases hk
 | some p=>cases hk;exact hA _ _ _ rfl)
theorem RI.onlyA (h:RI w B m xs) (k:OnlyA w w' A) (hg:∀ g o s g' o' s',A=some ⟨g,o,s⟩→B=some ⟨g',o',s'⟩→g'≠g):RI w' B m xs:=
 ⟨h.1,fun hn=>by
  obtain ⟨b,o,hB,hc⟩:=h.2 hn;refine ⟨b,o,hB,fun j x hx=>?_⟩;have h1:=hc j x hx;refine (World.cell?_of_block (k.block b (World.block_lt_of_cell? w _ h1) (fun e=>?_))).trans h1;cases A with
  | none=>cases e
  | some p=>simp only [Option.map] at e;injection e with e;exact hg _ _ _ _ _ _ rfl hB e⟩
end
theorem one_cells (w:World) (x:Value) (t:TypeId):∀ (j:Nat) (u:Value),[x][j]?=some u→(w.alloc (.cells #[x] t)).cell? ((⟨w.heap.size,0,none⟩:Addr).add j)=some u:=by
 intro j u hj
 match j,hj with
 | 0,hj=>simp at hj;subst hj;simp [Addr.add,go_sem]
theorem one_one (x:Int):∀ u∈[Value.int .i64 x],u.oneCell'=true:=by intro u hu;simp at hu;subst hu;rfl
def RdIc (w:World) (v:Value) (xs:List Int):Prop:=∃ A n c,v=.slice A n c∧(n≤c∧c≤9223372036854775807)∧RI w A n xs
theorem RdIc.mk {w:World} {A:Option Addr} {n c:Nat} {xs:List Int} (hc:n≤c∧c≤9223372036854775807) (h:RI w A n xs):RdIc w (.slice A n c) xs:=⟨A,n,c,rfl,hc,h⟩
theorem RdIc.ext {w w':World} {v:Value} {xs:List Int} (h:RdIc w v xs) (k:Ext w w'):RdIc w' v xs:=by
 obtain ⟨A,n,c,e,hc,h1⟩:=h;exact ⟨A,n,c,e,hc,h1.ext k⟩
theorem OwI.cap {w:World} {B:Nat} {A:Option Addr} {n c:Nat} {xs:List Int} (h:OwI w B A n c xs):n≤c∧c≤9223372036854775807:=by
 rcases h.2.2 with ⟨hv,hn⟩ | ⟨g,cap,cur,hv,hg,hh,h1,h2,_⟩
 .cases hv;omega
 .cases hv;exact ⟨h1,h2⟩
theorem RI.sub {w:World} {b o n:Nat} {xs ys rest:List Int} {p:Nat} (h:RI w (some ⟨b,o,none⟩) n xs) (hd:xs.drop p=ys++rest):RI w (some ⟨b,o+p,none⟩) ys.length ys:=by
 have hl:ys.length≤n - p:=by
  have:=congrArg List.length hd;rw [List.length_drop,List.length_append,h.len] at this;omega
 refine ⟨⟨rfl,by have:=h.le;omega⟩,fun hn=>⟨b,o+p,rfl,fun j x hx=>?_⟩⟩;obtain ⟨b',o',e,hc⟩:=h.2 (by omega);cases e;have hj:j < ys.length:=(List.getElem?_eq_some_iff.1 hx).1;have e2:xs[p+j]?=some x:=by
  rw [← List.getElem?_drop,hd,List.getElem?_append_left hj];exact hx
 rw [Nat.add_assoc];exact hc _ _ e2
theorem drop_lt {xs ys rest:List Int} {p:Nat} (hd:xs.drop p=ys++rest) (h:1≤ys.length):p+ys.length≤xs.length:=by
 have:=congrArg List.length hd;rw [List.length_drop,List.length_append] at this;omega
theorem drop_head {xs us rest:List Int} {x:Int} {p:Nat} (hd:xs.drop p=(x :: us)++rest):xs[p]?=some x:=by
 have e:(xs.drop p)[0]?=some x:=by rw [hd];rfl
 rwa [List.getElem?_drop,Nat.add_zero] at e
def OwN (w:World) (B:Nat) (A:Option Addr) (n c:Nat) (xs:List Int):Prop:=n≤4194304∧w.ownsRow B 3 1 (.slice A n c) n (xs.map (Value.int .i64))
section
variable {w w':World} {B:Nat} {A:Option Addr} {n c:Nat} {xs:List Int}
theorem OwN.len (h:OwN w B A n c xs):xs.length=n:=by
 have:=h.2.1;simpa using this
theorem OwN.ri (h:OwN w B A n c xs):RI w A n xs:=by
 refine ⟨⟨h.len,h.1⟩,fun hn=>?_⟩;obtain ⟨g,cap,hv,_,hlt⟩:=World.ownsRow.form h.2 hn;cases hv;refine ⟨g,0,rfl,fun j x hx=>?_⟩;have hj:j < n:=by have:=(List.getElem?_eq_some_iff.1 hx).1;rw [h.len] at this;exact this
 have:=World.ownsRow.cellAt h.2 j (by omega);rw [Nat.zero_add,this];simp [hx]
theorem OwN.ext (h:OwN w B A n c xs) (k:Ext w w'):OwN w' B A n c xs:=by
 refine ⟨h.1,h.2.1,?_⟩;rcases h.2.2 with h2 | ⟨g,cap,cur,hv,hg,hh,r⟩
 .exact .inl h2
 .exact .inr ⟨g,cap,cur,hv,hg,(k.block g (Array.getElem?_eq_some_iff.1 hh).1).trans hh,r⟩
theorem OwN.alloc (h:OwN w B A n c xs) (o:Obj):OwN (w.alloc o) B A n c xs:=h.ext (Ext.alloc (Ext.refl _) o)
theorem OwN.ob (h:OwN w B A n c xs):∀ k,(Value.slice A n c).ownBlock=some k→B≤k:=by
 intro k hk;rcases h.2.2 with ⟨hv,_⟩ | ⟨g,cap,cur,hv,hg,_⟩
 .cases hv;cases hk
 .cases hv;cases hk;exact hg
end
theorem c_endAt_flat {v0 v1:Value} {ar t rest:List Int} {p:Nat} {u:Tm} {w:World} (h0:RdSig w v0 ar) (h1:RdI w v1 t) (hs:SigP ar) (hu:u.Ok ar) (hd:t.drop p=u.flat++rest) :
 Calls Tryz.prog 93 #[v0,v1,.int .i64 (p:Int)] w fun e w'=>e=.returned (.int .i64 ((p+u.flat.length:Nat):Int))∧Ext w w':=
 (c_endAt (p:=(p:Int)) h0 h1 hs (by omega) (by have:=drop_lt hd (flat_pos u);omega)).mono fun e w' h=>⟨h.1.trans (ret_int (by rw [Int.toNat_natCast];exact endI_flat hu hd)),h.2⟩
theorem int_info:(Tryz.prog.info? 3).map (fun i=>(i.zero,i.size,i.bytes))=some (some (.int .i64 0),1,8):=by kernel_rfl
theorem mq12 {p:Prop} (h:p:=by simp only [intOf];omega):p:=h
theorem c_argsAtB {v0 v1:Value} {ar t rest:List Int} {p:Nat} {x:Int} {us:List Tm} {w:World} (h0:RdSig w v0 ar) (h1:RdI w v1 t) (hs:SigP ar) (hu:(Tm.node x us).Ok ar) (hd:t.drop p=(Tm.node x us).flat++rest) :
 Calls Tryz.prog 98 #[v0,v1,.int .i64 (p:Int)] w fun e w'=>∃ A n c,e=.returned (.slice A n c)∧n=us.length∧RI w' A n (starts (p+1) us)∧Ext w w'∧∀ b o s,A=some ⟨b,o,s⟩→w.heap.size≤b:=by
 obtain ⟨A,n,c,rfl,ha⟩:=h0;obtain ⟨B,m,d,rfl,hb⟩:=h1;have hm:=hb.le;have hml:=hb.len;have hlt:=drop_lt hd (flat_pos _);rw [hml] at hlt;have hxp:t[p]?=some x:=drop_head (by rw [← flat_node];exact hd);have hfl:(flatL us).length+1=(Tm.node x us).flat.length:=by rw [flat_node];rfl
 obtain ⟨hok,hol⟩:=Ok_node.1 hu;have hal:us.length≤3:=arI_le hs hok;obtain ⟨b,o,y,rfl,hy,hcy⟩:=RI.at_ hb (show p < m by omega);rw [hxp] at hy;cases hy;obtain ⟨i0,hii,hiz,his,hib⟩:=info_parts int_info;have hpm:(p:Int) < (m:Int):=by omega
 have HA:=Lib.hid ha;have HB:=Lib.hid hb;have HS:=Lib.hid hs;have HD:=Lib.hid hd;have HOK:=Lib.hid hok;have HOL:=Lib.hid (OkL_iff.1 hol);clear ha hb hs hd hok hol hxp hu hfl;go_enter Tryz.func98,Tryz.ntmps98;go_wp2_with fail;obtain ⟨wo,hwo⟩:∃ wo,wo=w.alloc (.cells #[.slice A n c] 29):=⟨_,rfl⟩;have hb0:wo.cell? ⟨w.heap.size,0,none⟩=some (.slice A n c):=by rw [hwo];simp [go_sem]
 have hEo:Ext w wo:=by rw [hwo];exact extX
 have hcy2:wo.cell? ⟨b,o+p,none⟩=some (.int .i64 x):=Ext.keep hEo hcy;rw [← hwo];clear hwo hcy;go_still_tail 5,(by kernel_rfl)
 change wpList _ _ _ _ _ wo.drew
 have hE1:Ext w wo.drew:=extX;go_wp2_with (go_at_call 113;(with_reducible refine (c_arityAt (ar:=ar) (RdSig.mk (RI.ext HA.out extX)) HS.out HOK.out).mono ?_);rintro e w2 ⟨rfl,hE2⟩)
 have hb2:w2.cell? ⟨w.heap.size,0,none⟩=some (.slice A n c):=Ext.keep hE2 hb0;have hEw:Ext w w2:=extX;go_loopw [7,8,9] (fun ov nx nn wr=>∃ k:Nat,k≤us.length∧nn=.int .i64 ((us.length:Int) - k)∧(∃ q:Nat,nx=.int .i64 (q:Int)∧Hid (q=p+1+(flatL (us.take k)).length)∧q≤m)∧(∃ A c,ov=.slice A k c∧Hid (OwN wr w2.heap.size A k c (starts (p+1) (us.take k))))∧Ext w2 wr) (fun _ _ nn _=>(intOf nn).toNat)
 case atStart=>exact ⟨0,Nat.zero_le _,by simp,⟨p+1,by go_num,Lib.hid (by simp [flatL_nil]),by omega⟩,⟨none,0,rfl,Lib.hid ⟨by omega,by simp [starts];exact World.ownsRow_nil _ _ _ _⟩⟩,extX⟩
 case round=>
  obtain ⟨k,hk,rfl,⟨q,rfl,hq,hqm⟩,⟨A1,c1,rfl,hO⟩,hE3⟩:=hrel;by_cases hlt2:k < us.length
  .obtain ⟨a,hak⟩:∃ a,us[k]?=some a:=⟨us[k],List.getElem?_eq_getElem hlt2⟩;have hda:=drop_arg HD.out hak;rw [← hq.out] at hda;have hao:=HOL.out a (List.mem_of_getElem? hak);have hqa:=drop_lt hda (flat_pos a);rw [hml] at hqa;have hst:starts (p+1) (us.take (k+1))=starts (p+1) (us.take k)++[(q:Int)]:=by
    rw [take_snoc hak,starts_append,← hq.out];rfl
   have hfk:(flatL (us.take (k+1))).length=(flatL (us.take k)).length+a.flat.length:=by
    rw [take_snoc hak,flatL_append,flatL_cons,flatL_nil,List.append_nil,List.length_append]
   have HDA:=Lib.hid hda;have HAO:=Lib.hid hao;have HST:=Lib.hid hst;have HFK:=Lib.hid hfk;clear hda hao hst hfk hak;go_wp2_with (at_builtin;go_loud (refine wpList_append_lies _ rfl (.tmp 22) (.tmp 24) 135 rfl w2.heap.size 3 i0 (.int .i64 0) 1 8 Tryz.underlying135 hii hiz his hib rfl (by decide) _ _ _ rfl (OwN.alloc hO.out _).2 ⟨wr.heap.size,0,none⟩ 1 1 [.int .i64 (q:Int)] rfl rfl (one_cells _ _ _) (one_one _) (by decide) (by unfold maxLen;omega) (by omega) (by have:=hE3.size;go_size) _ rfl ?_))
   intro g cap wx hown hg hat hltg;have hE4:Ext w2 wx:=Ext.grown (hE3.alloc _) hg (fun k' hk'=>hO.out.ob k' hk');have HW:=Lib.hid (show OwN wx w2.heap.size (some ⟨g,0,none⟩) (k+1) cap (starts (p+1) (us.take (k+1))) from ⟨by omega,by rw [HST.out,List.map_append];exact hown⟩);have hb4:wx.cell? ⟨w.heap.size,0,none⟩=some (.slice A n c):=Ext.keep hE4 hb2;have hEwx:Ext w wx:=extX;clear hown hg hat
   go_wp2_with (go_at_call 93;(with_reducible refine (c_endAt_flat (u:=a) (RdSig.mk (RI.ext HA.out extX)) (RdI.mk (RI.ext HB.out extX)) HS.out HAO.out HDA.out).mono ?_);rintro e w5 ⟨rfl,hE5⟩)
   go_roundw
   case rel=>exact ⟨k+1,by omega,by go_num,⟨q+a.flat.length,rfl,Lib.hid (by rw [HFK.out,hq.out];omega),by omega⟩,⟨_,_,rfl,Lib.hid (HW.out.ext hE5)⟩,extX⟩
   case measure=>exact mq12
  .have hkn:k=us.length:=by omega
   subst hkn;go_wp2;go_ret;exact ⟨_,_,_,rfl,rfl,by have:=hO.out.ri;rwa [List.take_length] at this,extX,fun b o s e=>by subst e;have h1:=hO.out.ob b rfl;have h2:=hEw.size;omega⟩
theorem c_argsAt {v0 v1:Value} {ar t rest:List Int} {p:Nat} {x:Int} {us:List Tm} {w:World} (h0:RdSig w v0 ar) (h1:RdI w v1 t) (hs:SigP ar) (hu:(Tm.node x us).Ok ar) (hd:t.drop p=(Tm.node x us).flat++rest) :
 Calls Tryz.prog 98 #[v0,v1,.int .i64 (p:Int)] w fun e w'=>∃ A n c,e=.returned (.slice A n c)∧n=us.length∧RI w' A n (starts (p+1) us)∧Ext w w':=
 (c_argsAtB h0 h1 hs hu hd).mono fun _ _ ⟨A,n,c,e,h1,h2,h3,_⟩=>⟨A,n,c,e,h1,h2,h3⟩
def FI (k:Bool) (w:World) (b o:Nat) (xs:List Int):Prop:=∃ A n c,w.cell? ⟨b,o,none⟩=some (.slice A n c)∧(k=true→n≤c∧c≤9223372036854775807)∧RI w A n xs
theorem FI.ext {k:Bool} {w w':World} {b o:Nat} {xs:List Int} (h:FI k w b o xs) (e:Ext w w'):FI k w' b o xs:=by
 obtain ⟨A,n,c,h1,h2,h3⟩:=h;exact ⟨A,n,c,Ext.keep e h1,h2,h3.ext e⟩
def RR (k:Bool) (w:World) (B:Option Addr) (m:Nat) (rs:List Ru):Prop:=
 (rs.length=m∧m≤4194304)∧(0 < m→∃ b o,B=some ⟨b,o,none⟩∧∀ (j:Nat) (r:Ru),rs[j]?=some r→FI k w b (o+j * 2) r.l∧FI k w b (o+j * 2+1) r.r)
section
variable {k:Bool} {w w':World} {B:Option Addr} {m j:Nat} {rs:List Ru}
theorem RR.len (h:RR k w B m rs):rs.length=m:=h.1.1
theorem RR.le (h:RR k w B m rs):m≤4194304:=h.1.2
theorem RR.ext (h:RR k w B m rs) (e:Ext w w'):RR k w' B m rs:=
 ⟨h.1,fun hm=>by
  obtain ⟨b,o,hB,hc⟩:=h.2 hm;exact ⟨b,o,hB,fun j r hr=>⟨(hc j r hr).1.ext e,(hc j r hr).2.ext e⟩⟩⟩
theorem RR.at_ (h:RR k w B m rs) (hj:j < m):∃ b o r A n c A' n' c',B=some ⟨b,o,none⟩∧rs[j]?=some r∧w.cell? ⟨b,o+j * 2,none⟩=some (.slice A n c)∧w.cell? ⟨b,o+j * 2+1,none⟩=some (.slice A' n' c') ∧
 RI w A n r.l∧RI w A' n' r.r∧(k=true→n≤c∧c≤9223372036854775807)∧(k=true→n'≤c'∧c'≤9223372036854775807):=by
 obtain ⟨b,o,hB,hc⟩:=h.2 (by omega);have hl:j < rs.length:=by rw [h.len];exact hj
 obtain ⟨⟨A,n,c,h1,h2,h3⟩,⟨A',n',c',h1',h2',h3'⟩⟩:=hc j _ (List.getElem?_eq_getElem hl);exact ⟨b,o,rs[j],A,n,c,A',n',c',hB,List.getElem?_eq_getElem hl,h1,h1',h3,h3',h2,h2'⟩
end
def RdSyK (k:Bool) (w:World) (v:Value) (s:Sy):Prop:=∃ A n c B m d,v=.agg #[.slice A n c,.slice B m d]∧RI w A n s.ar∧RR k w B m s.rs
abbrev RdSyC:=RdSyK true
theorem RdSyK.ext {k:Bool} {w w':World} {v:Value} {s:Sy} (h:RdSyK k w v s) (e:Ext w w'):RdSyK k w' v s:=by
 obtain ⟨A,n,c,B,m,d,hv,h1,h2⟩:=h;exact ⟨A,n,c,B,m,d,hv,h1.ext e,h2.ext e⟩
theorem RdSyK.mk {k:Bool} {w:World} {A B:Option Addr} {n c m d:Nat} {s:Sy} (h1:RI w A n s.ar) (h2:RR k w B m s.rs):RdSyK k w (.agg #[.slice A n c,.slice B m d]) s:=⟨A,n,c,B,m,d,rfl,h1,h2⟩

