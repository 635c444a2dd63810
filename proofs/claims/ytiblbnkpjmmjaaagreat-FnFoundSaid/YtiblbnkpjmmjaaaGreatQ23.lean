/- -/
import Derived.Shelf.SlicesG.Delete
import Derived.Test.YtiblbnkpjmmjaaaGreatQ22
set_option maxRecDepth 100000
set_option maxHeartbeats 16000000
set_option linter.all false
namespace Go.Proofs.YtiblbnkpjmmjaaaGreat
open Go.RowKit
theorem OwN.form {w:World} {B n c:Nat} {A:Option Addr} {xs:List Int} (h:OwN w B A n c xs):(A=none∧n=0∧c=0)∨∃ g,A=some ⟨g,0,none⟩∧B≤g∧g < w.heap.size:=by
 rcases h.2.2 with ⟨hv,hn⟩ | ⟨g,cap,cur,hv,hg,hh,_⟩
 .cases hv;exact .inl ⟨rfl,rfl,rfl⟩
 .cases hv;exact .inr ⟨g,rfl,hg,(Array.getElem?_eq_some_iff.1 hh).1⟩
theorem OwN.bd {w:World} {B n c:Nat} {A:Option Addr} {xs:List Int} (h:OwN w B A n c xs):∀ g o s,A=some ⟨g,o,s⟩→B≤g∧g < w.heap.size:=by
 intro g o s hA;rcases h.form with ⟨h0,_⟩ | ⟨g',hA',hlo,hlt⟩
 .rw [h0] at hA;cases hA
 .rw [hA'] at hA;cases hA;exact ⟨hlo,hlt⟩
theorem OwN.cap {w:World} {B:Nat} {A:Option Addr} {n c:Nat} {xs:List Int} (h:OwN w B A n c xs):n≤c∧c≤9223372036854775807:=by
 rcases h.2.2 with ⟨hv,hn⟩ | ⟨g,cap,cur,hv,hg,hh,h1,h2,_⟩
 .cases hv;omega
 .cases hv;exact ⟨h1,h2⟩
theorem OwN.heap {w w':World} {B n c:Nat} {A:Option Addr} {xs:List Int} (h:OwN w B A n c xs) (hk:∀ g,A=some ⟨g,0,none⟩→w'.heap[g]?=w.heap[g]?):OwN w' B A n c xs:=by
 refine ⟨h.1,h.2.1,?_⟩;rcases h.2.2 with h2 | ⟨g,cap,cur,hv,hg,hh,r⟩
 .exact .inl h2
 .have hA:A=some ⟨g,0,none⟩:=by cases hv;rfl
  exact .inr ⟨g,cap,cur,hv,hg,by rw [hk g hA];exact hh,r⟩
def NewN (w:World) (xs:List Int) (e:Ending) (w':World):Prop:=∃ A n c,e=.returned (.slice A n c)∧OwN w' w.heap.size A n c xs∧Ext w w'
theorem OwN.none0 {w:World} {D:Nat} (hD:D≤w.heap.size):OwN (w.alloc (.cells #[] 3)) D (some ⟨w.heap.size,0,none⟩) 0 0 []:=
 ⟨Zo,World.ownsRow_made w #[] 0 hD (by decide) rfl⟩
theorem wp_append_intsN {P:Program} {w:World} {o:Oper} {a:Act} {K:Act→World→Prop} {Q:Exit→Act→World→Prop} (s x:Operand) (t:TypeId)
 (ho:o.op=.call { callee:=.builtin .append,args:=#[s,x],argTypes:=#[t,t] }) (i:TypeInfo) (ht:P.underlying t=some (.slice 3)) (hi:P.info? 3=some i) (hz:i.zero=some (.int .i64 0))
 (hsize:i.size=1) (hby:i.bytes=8) {D n c m d:Nat} {A B:Option Addr} {xs ys:List Int} (hs:a.eval s=.slice A n c) (h:OwN w D A n c xs) (hx:a.eval x=.slice B m d) (hb:RI w B m ys) (hnm:n+m≤4194304) (hD:D≤w.heap.size) (hnc:n≤c)
 (hK:∀ A' c' w',OwN w' D A' (n+m) c' (xs++ys)→w.grownBy w' (Value.slice A n c).ownBlock→(∀ b o s,A'=some ⟨b,o,s⟩→(Value.slice A n c).ownBlock=some b∨b=w.heap.size)→K (a.put o.dst (.slice A' (n+m) c')) w'):o.wp P a w K Q:=by
 rcases Nat.eq_zero_or_pos m with h0 | h0
 .subst h0;have hys:ys=[]:=List.length_eq_zero_iff.1 hb.len;subst hys;have hr:∀ ty,(Builtin.append_ #[t,t] ty #[.slice A n c,.slice B 0 d]).run P w=.ok (.slice A n c) w:=by
   intro ty;cases A<;>cases B<;>simp [Builtin.append_,run_underlying ht,sizeOf,typeInfo,hi,hnc,storeCells,loadCells,Builtin.lenOf,Builtin.firstCells,loadCellsFrom,storeCells]
  unfold Oper.wp execOp;simp only [ho,resolve,invoke,builtin,Sem.run_bind,Sem.run_pure,Result.andThen_ok,List.map_toArray,List.map_cons,List.map_nil,hs,hx,hr];exact hK A c w (by simpa using h) (World.grownBy.refl _ _) (fun b o s e=>by subst e;exact .inl rfl)
 .obtain ⟨b,q,rfl,hc⟩:=hb.2 h0;refine wp_append_lies w s x t ho D 3 i (.int .i64 0) 1 8 ht hi hz hsize hby rfl (by decide) _ n _ hs h.2 ⟨b,q,none⟩ m d (ys.map (Value.int .i64)) hx (by simp [hb.len]) (fun j u hu=>?_) (fun u hu=>?_) h0 (by unfold maxLen;omega) Zo hD _ rfl (fun g cap w' h2 h3 h4 h5=>?_)
  .rw [List.getElem?_map] at hu;obtain ⟨y,hy,rfl⟩:=Option.map_eq_some_iff.1 hu;have:(⟨b,q,none⟩:Addr).add j=⟨b,q+j,none⟩:=by unfold Addr.add;split<;>simp_all
   rw [this];exact hc j y hy
  .obtain ⟨y,_,rfl⟩:=List.mem_map.1 hu;rfl
  .exact hK _ cap w' ⟨hnm,by rw [List.map_append];exact h2⟩ h3 (fun b o s e=>by cases e;exact h4)
theorem wp_append_newN {P:Program} {w:World} {o:Oper} {a:Act} {K:Act→World→Prop} {Q:Exit→Act→World→Prop} (s x:Operand) (t:TypeId)
 (ho:o.op=.call { callee:=.builtin .append,args:=#[s,x],argTypes:=#[t,t] }) (i:TypeInfo) (ht:P.underlying t=some (.slice 3)) (hi:P.info? 3=some i) (hz:i.zero=some (.int .i64 0))
 (hsize:i.size=1) (hby:i.bytes=8) {D m d g:Nat} {B:Option Addr} {ys:List Int} (hs:a.eval s=.slice (some ⟨g,0,none⟩) 0 0) (h:OwN w D (some ⟨g,0,none⟩) 0 0 []) (hx:a.eval x=.slice B m d) (hb:RI w B m ys) (hD:D≤w.heap.size)
 (hK:∀ A' c' w',OwN w' D A' m c' ys→w.grownBy w' (some g)→(∀ b o s,A'=some ⟨b,o,s⟩→b=g∨b=w.heap.size)→K (a.put o.dst (.slice A' m c')) w'):o.wp P a w K Q:=by
 refine wp_append_intsN s x t ho i ht hi hz hsize hby hs h hx hb (by have:=hb.le;omega) hD (Nat.le_refl _) fun A' c' w' h1 h2 h3=>?_;rw [Nat.zero_add] at h1 ⊢;exact hK A' c' w' (by simpa using h1) h2 fun b o s e=>(h3 b o s e).imp (fun e=>by cases e;rfl) id
theorem wpList_append_newN {P:Program} {w:World} {ops:Array Oper} {rest:List Oper} {o:Oper} {a:Act} {Q:Exit→Act→World→Prop} (hgd:o.guard=none) (s x:Operand) (t:TypeId)
 (ho:o.op=.call { callee:=.builtin .append,args:=#[s,x],argTypes:=#[t,t] }) (i:TypeInfo) (ht:P.underlying t=some (.slice 3)) (hi:P.info? 3=some i) (hz:i.zero=some (.int .i64 0))
 (hsize:i.size=1) (hby:i.bytes=8) {D m d g:Nat} {B:Option Addr} {ys:List Int} (hs:a.eval s=.slice (some ⟨g,0,none⟩) 0 0) (h:OwN w D (some ⟨g,0,none⟩) 0 0 []) (hx:a.eval x=.slice B m d) (hb:RI w B m ys) (hD:D≤w.heap.size)
 (hK:∀ A' c' w',OwN w' D A' m c' ys→w.grownBy w' (some g)→(∀ b o s,A'=some ⟨b,o,s⟩→b=g∨b=w.heap.size)→wpList P ops Q rest (a.put o.dst (.slice A' m c')) w'):wpList P ops Q (o :: rest) a w:=
 wpList_plain hgd fun _ hk=>wp_append_newN s x t ho i ht hi hz hsize hby hs h hx hb hD fun A' c' w' h1 h2 h3=>hk _ _ (hK A' c' w' h1 h2 h3)
theorem c_cloneN {A:Option Addr} {n c:Nat} {xs:List Int} {w:World} (h0:RI w A n xs):Calls Tryz.prog 144 #[.slice A n c] w (NewN w xs):=by
 have hn:=h0.le;cases A with
 | none=>
  have hz:n=0:=by
   rcases Nat.eq_zero_or_pos n with h | h
   .exact h
   .obtain ⟨b,o,e,_⟩:=h0.2 h;cases e
  have hx:xs=[]:=List.length_eq_zero_iff.1 (by rw [h0.len,hz]);subst hx;subst hz;have hnil:∀ w:World,(binOp .eql 135 (.slice none 0 c) (.slice none 0 0)).run Tryz.prog w=.ok (.bool true) w:=fun w=>run_eql_slice_nil w _ _ none 0 c Tryz.underlying135;go_enter Tryz.func144,Tryz.ntmps144;go_wp2;go_ret;exact ⟨none,0,0,rfl,⟨Zo,World.ownsRow_nil _ _ _ _⟩,Ext.refl _⟩
 | some p=>
  have HA:=Zh h0;obtain ⟨i0,hii,hiz,his,hib⟩:=info_parts int_info;have hnil:∀ w:World,(binOp .eql 135 (.slice (some p) n c) (.slice none 0 0)).run Tryz.prog w=.ok (.bool false) w:=fun w=>run_eql_slice_nil w _ _ (some p) n c Tryz.underlying135;clear h0;go_enter Tryz.func144,Tryz.ntmps144;go_wp2_with (at_builtin;go_loud (refine wpList_append_newN rfl (.tmp 5) (.tmp 6) 135 rfl i0 Tryz.underlying135 hii hiz his hib (D:=w.heap.size) rfl (OwN.none0 (Nat.le_refl _)) rfl (RI.ext HA.out extX) (by go_size) ?_))
  intro A2 c2 w2 hO hg hat
  have HO:=Zh hO;have hE:Ext w w2:=Ext.grown ((Ext.refl w).alloc _) hg (fun k hk=>by cases hk;exact Nat.le_refl _);clear hO hg hat
  go_wp2;go_ret;exact ⟨A2,n,c2,rfl,HO.out,hE⟩
def lay45_ren:Go.Shelf.Ren:=⟨fun | 45=>147 | n=>n,fun | 22=>135 | 23=>3 | 3=>3 | 4=>4 | 0=>0 | n=>n,fun n=>n⟩
theorem lay45:SlLaysN.n45 Tryz.prog lay45_ren:={ mixed:=Zk,f45:=⟨Tryz.f147.name,by decide,Tryz.func147.trans (congrArg some Zk)⟩,t0:=Tryz.underlying0,a0:=Tryz.isAgg0,z0:=Tryz.sizeOf0,v0:=Tryz.zeroValue0,t3:=Tryz.underlying3,a3:=Tryz.isAgg3,z3:=Tryz.sizeOf3,v3:=Tryz.zeroValue3,t4:=Tryz.underlying4,a4:=Tryz.isAgg4,z4:=Tryz.sizeOf4,v4:=Tryz.zeroValue4,t22:=Tryz.underlying135,a22:=Tryz.isAgg135,z22:=Tryz.sizeOf135,v22:=Tryz.zeroValue135,t23:=Tryz.underlying3,a23:=Tryz.isAgg3,z23:=Tryz.sizeOf3,v23:=Tryz.zeroValue3,i23:=by kernel_rfl }
def HoN (w:World) (B:Nat) (A:Option Addr) (n c:Nat) (xs:List Int):Prop:=xs.length=n∧n≤4194304∧n≤c∧c≤9223372036854775807∧((A=none∧n=0)∨∃ b,A=some ⟨b,0,none⟩∧B≤b∧b < w.heap.size∧∀ j x,xs[j]?=some x→w.cell? ⟨b,j,none⟩=some (.int .i64 x)∧w.frozen? ⟨b,j,none⟩=false)
theorem OwN.ho {w:World} {B n c:Nat} {A:Option Addr} {xs:List Int} (h:OwN w B A n c xs):HoN w B A n c xs:=by
 refine ⟨h.len,h.1,h.cap.1,h.cap.2,?_⟩;rcases h.form with ⟨h0,h1,_⟩ | ⟨g,rfl,h1,h2⟩
 .exact .inl ⟨h0,h1⟩
 .refine .inr ⟨g,rfl,h1,h2,fun j x hx=>?_⟩;have hj:j < n:=by have:=(List.getElem?_eq_some_iff.1 hx).1;rw [h.len] at this;exact this
  refine ⟨?_,World.ownsRow.frozenAt h.2 j⟩;rw [World.ownsRow.cellAt h.2 j Zo];simp [hx]
theorem HoN.ri {w:World} {B n c:Nat} {A:Option Addr} {xs:List Int} (h:HoN w B A n c xs):RI w A n xs:=by
 obtain ⟨h1,h2,_,_,h3⟩:=h;refine ⟨⟨h1,h2⟩,fun hn=>?_⟩;rcases h3 with ⟨_,h0⟩ | ⟨b,rfl,_,_,h4⟩
 .omega
 .exact ⟨b,0,rfl,fun j x hx=>by rw [Nat.zero_add];exact (h4 j x hx).1⟩
theorem HoN.heap {w w':World} {B n c:Nat} {A:Option Addr} {xs:List Int} (h:HoN w B A n c xs) (hs:w.heap.size≤w'.heap.size) (hk:∀ g,A=some ⟨g,0,none⟩→w'.heap[g]?=w.heap[g]?):HoN w' B A n c xs:=by
 obtain ⟨h1,h2,h5,h6,h3⟩:=h;refine ⟨h1,h2,h5,h6,?_⟩;rcases h3 with h0 | ⟨b,rfl,h7,h8,h4⟩
 .exact .inl h0
 .refine .inr ⟨b,rfl,h7,Zo,fun j x hx=>?_⟩;exact ⟨(World.cell?_of_block (hk b rfl)).trans (h4 j x hx).1,(World.frozen?_of_block (hk b rfl)).trans (h4 j x hx).2⟩
theorem HoN.bd {w:World} {B n c:Nat} {A:Option Addr} {xs:List Int} (h:HoN w B A n c xs) (hn:0 < n):∃ b,A=some ⟨b,0,none⟩∧B≤b∧b < w.heap.size:=by
 obtain ⟨_,_,_,_,h3⟩:=h;rcases h3 with ⟨_,h0⟩ | ⟨b,h1,h2,h4,_⟩
 .omega
 .exact ⟨b,h1,h2,h4⟩
theorem c_deleteN {b n c B k:Nat} {xs:List Int} {w:World} (h:HoN w B (some ⟨b,0,none⟩) n c xs) (hk:k < n) :
 Calls Tryz.prog 147 #[.slice (some ⟨b,0,none⟩) n c,.int .i64 (k:Int),.int .i64 ((k:Int)+1)] w fun e w'=>e=.returned (.slice (some ⟨b,0,none⟩) (n - 1) c)∧HoN w' B (some ⟨b,0,none⟩) (n - 1) c (xs.eraseIdx k)∧Only w w' b:=by
 obtain ⟨h1,h2,h5,h6,h3⟩:=h;subst h1;rcases h3 with ⟨h0,_⟩ | ⟨b',e,h7,h8,h4⟩
 .cases h0
 cases e;have hH:Go.Sort.Holds (Value.int .i64) w b 0 xs.toArray:=fun j hj=>by
  have hj':j < xs.length:=by simpa using hj
  have:=h4 j xs[j] (List.getElem?_eq_getElem hj');rw [Nat.zero_add]
  simpa [getElem!_pos,hj'] using this
 have h:=AnyG.slices_Delete_int lay45 b 0 c k (k+1) xs w hH h5 h6 Zo Zo;have e1:((k+1:Nat):Int)=(k:Int)+1:=by omega
 rw [e1] at h;refine Calls.mono h ?_;rintro e w' ⟨rfl,q,rfl⟩;have hl:(xs.take k++xs.drop (k+1)++List.replicate (k+1 - k) 0).toArray.size=xs.toArray.size:=by simp;omega
 have hH2:=Go.Sort.holds_putRow (Value.int .i64) (Go.Sort.ahead w q) b 0 xs.toArray _ (Go.Sort.holds_ahead _ w q b 0 _ hH) hl;have hsz:(Go.Sort.putRow (Value.int .i64) (Go.Sort.ahead w q) b 0 (xs.take k++xs.drop (k+1)++List.replicate (k+1 - k) 0).toArray).heap.size=w.heap.size:=by
  unfold Go.Sort.putRow Go.Sort.mapBlock Go.Sort.ahead;simp
 have hel:(xs.eraseIdx k).length=xs.length - 1:=List.length_eraseIdx_of_lt hk;refine ⟨by rw [show xs.length - (k+1 - k)=xs.length - 1 by omega],⟨hel,Zo,Zo,h6,.inr ⟨b,rfl,h7,by rw [hsz];exact h8,fun j x hx=>?_⟩⟩,?_⟩
 .have hj:j < xs.length - 1:=by have:=(List.getElem?_eq_some_iff.1 hx).1;omega
  obtain ⟨g1,g2⟩:=hH2 j (by rw [hl];simp;omega);rw [Nat.zero_add] at g1 g2;refine ⟨?_,g2⟩;rw [g1]
  congr 2
  have e2:(xs.take k++xs.drop (k+1)++List.replicate (k+1 - k) 0)[j]?=some x:=by
   rw [List.getElem?_append_left (by simp;omega),← List.eraseIdx_eq_take_drop_succ];exact hx
  have hj2:j < (xs.take k++xs.drop (k+1)++List.replicate (k+1 - k) 0).length:=(List.getElem?_eq_some_iff.1 e2).1;rw [getElem!_pos _ j (by simpa using hj2)];have:=(List.getElem?_eq_some_iff.1 e2).2
  simpa using this
 .refine ⟨rfl,rfl,rfl,by rw [hsz];exact Nat.le_refl _,fun i hi hne=>?_⟩;unfold Go.Sort.putRow Go.Sort.mapBlock Go.Sort.ahead;simp only [Array.getElem?_modify];rw [if_neg (fun e=>hne (by rw [e]))]
def IdxAt (p:Int→Bool) (xs:List Int) (r:Int):Prop:=(∃ (k:Nat) (x:Int),r=k∧xs[k]?=some x∧p x=true∧∀ (j:Nat) (y:Int),j < k→xs[j]?=some y→p y=false)∨(r = -1∧∀ (j:Nat) (y:Int),xs[j]?=some y→p y=false)
def IdxPost (p:Int→Bool) (xs:List Int) (S:World→Prop) (e:Ending) (w':World):Prop:=∃ r,e=.returned (.int .i64 r)∧IdxAt p xs r∧S w'
theorem mq23 {p:Prop} (h:p:=by simp only [intOf];omega):p:=h
theorem c_indexFuncN {A:Option Addr} {n c F:Nat} {xs:List Int} {cap:Array Value} {w:World} {p:Int→Bool} {S:World→Prop} (he:∀ (args:Array Value) (w:World),(callFunc F args).run Tryz.prog w=.ok (.enter F args) w) (hS:S w) (hr:∀ wr,S wr→RI wr A n xs)
 (hc:∀ (k:Nat) (x:Int),xs[k]?=some x→∀ wr,S wr→Calls Tryz.prog F (#[.int .i64 x]++cap) wr fun e w'=>e=.returned (.bool (p x))∧S w') :
 Calls Tryz.prog 145 #[.slice A n c,.func (.func F) #[] cap] w (IdxPost p xs S):=by
 have hn:=(hr w hS).le;have hl:=(hr w hS).len;have HS:=Zh hS;have HR:=Zh hr;have HC:=Zh hc;have HL:=Zh hl;clear hS hr hc hl;go_enter Tryz.func145,Tryz.ntmps145;go_wp2_with fail;go_loopw [8] (fun i wr=>∃ q:Nat,i=.int .i64 q∧q≤n∧Hid (∀ (j:Nat) (y:Int),j < q→xs[j]?=some y→p y=false)∧Hid (S wr)) (fun i _=>n - (intOf i).toNat)
 case atStart=>exact ⟨0,rfl,Nat.zero_le _,Zh (fun j y hj=>Zo),HS⟩
 case round=>
  obtain ⟨q,rfl,hq,hno,hSr⟩:=hrel;by_cases hlt:q < n
  .obtain ⟨b,o,x,rfl,hx,hcx⟩:=RI.at_ (HR.out wr hSr.out) hlt;have HX:=Zh hx;have hq1:(q:Int) < (n:Int):=by omega
   have hq0:(0:Int)≤(q:Int):=by omega
   have HCX:=Zh (HC.out q x hx wr hSr.out);clear hx;cases hpx:p x with
   | true=>
    have HPX:=Zh hpx;rw [hpx] at HCX;clear hpx;go_wp2_with fail
    (with_reducible refine HCX.out.mono ?_);rintro e w5 ⟨rfl,hS5⟩;have HS5:=Zh hS5;clear hS5;go_wp2;go_ret;exact ⟨(q:Int),rfl,.inl ⟨q,x,rfl,HX.out,HPX.out,hno.out⟩,HS5.out⟩
   | false=>
    have HN:=Zh (show ∀ (j:Nat) (y:Int),j < q+1→xs[j]?=some y→p y=false from fun j y hj hy=>by
     rcases Nat.lt_or_ge j q with h | h
     .exact hno.out j y h hy
     .obtain rfl:j=q:=by omega
      rw [HX.out] at hy;cases hy;exact hpx)
    rw [hpx] at HCX;clear hpx;go_wp2_with fail
    (with_reducible refine HCX.out.mono ?_);rintro e w5 ⟨rfl,hS5⟩;have HS5:=Zh hS5;clear hS5;go_wp2;go_roundw
    case rel=>exact ⟨q+1,by go_num,Zo,HN,HS5⟩
    case measure=>exact mq23
  .have hqn:q=n:=by omega
   go_wp2;go_ret;exact ⟨-1,rfl,.inr ⟨rfl,fun j y hy=>hno.out j y (by have:=(List.getElem?_eq_some_iff.1 hy).1;rw [HL.out] at this;omega) hy⟩,hSr.out⟩
theorem IdxAt.any {p:Int→Bool} {xs:List Int} {r:Int} (h:IdxAt p xs r) : -1≤r∧decide (0≤r)=xs.any p:=by
 rcases h with ⟨k,x,rfl,hx,hp,_⟩ | ⟨rfl,h⟩
 .refine ⟨Zo,?_⟩;rw [show xs.any p=true from List.any_eq_true.2 ⟨x,List.mem_of_getElem? hx,hp⟩];simp
 .refine ⟨Zo,?_⟩;rw [show xs.any p=false from List.any_eq_false.2 fun x hx=>by
   obtain ⟨j,hj,e⟩:=List.mem_iff_getElem.1 hx;rw [h j x (by rw [List.getElem?_eq_getElem hj,e])];decide]
  rfl
theorem c_containsFuncN {A:Option Addr} {n c F:Nat} {xs:List Int} {cap:Array Value} {w:World} {p:Int→Bool} {S:World→Prop} (he:∀ (args:Array Value) (w:World),(callFunc F args).run Tryz.prog w=.ok (.enter F args) w) (hS:S w) (hr:∀ wr,S wr→RI wr A n xs)
 (hc:∀ (k:Nat) (x:Int),xs[k]?=some x→∀ wr,S wr→Calls Tryz.prog F (#[.int .i64 x]++cap) wr fun e w'=>e=.returned (.bool (p x))∧S w') :
 Calls Tryz.prog 148 #[.slice A n c,.func (.func F) #[] cap] w fun e w'=>e=.returned (.bool (xs.any p))∧S w':=by
 have HI:=Zh (c_indexFuncN (c:=c) he hS hr hc);clear hS hr hc;go_enter Tryz.func148,Tryz.ntmps148;go_wp2_with fail
 (with_reducible refine HI.out.mono ?_);rintro e w5 ⟨r,rfl,hI,hS5⟩;have HS5:=Zh hS5;have HA:=Zh hI.any.2;clear hS5 hI;go_wp2;go_ret;exact ⟨ret_bool (by rw [← HA.out]),HS5.out⟩
theorem rmv_at {b:Tm}:∀ {l:List Tm} {k:Nat},l[k]?=some b→(∀ (j:Nat) (a:Tm),j < k→l[j]?=some a→a≠b)→b∈l∧rmv b l=l.eraseIdx k
 | [],k,h,_=>by simp at h
 | a :: l,0,h,_=>by
  have e:a=b:=by simpa using h
  subst e;exact ⟨List.mem_cons_self,by rw [rmv,if_pos rfl];rfl⟩
 | a :: l,k+1,h,hn=>by
  have h0:=hn 0 a Zo rfl;obtain ⟨h1,h2⟩:=rmv_at (l:=l) (k:=k) (by simpa using h) (fun j c hj hc=>hn (j+1) c Zo (by simpa using hc));exact ⟨List.mem_cons_of_mem _ h1,by rw [rmv,if_neg h0,h2];rfl⟩
theorem bagTwo_in {left ss:List Tm} {b:Tm} (h:b∈left):bagTwo left (b :: ss)=bagTwo (rmv b left) ss:=by
 conv=>lhs;unfold bagTwo
 rw [if_pos h]
theorem bagTwo_out {left ss:List Tm} {b:Tm} (h:¬ b∈left):bagTwo left (b :: ss)=((bagTwo left ss).1,b :: (bagTwo left ss).2):=by
 conv=>lhs;unfold bagTwo
 rw [if_neg h]
theorem map_erase {α β:Type} (f:α→β) (l:List α) (k:Nat):(l.eraseIdx k).map f=(l.map f).eraseIdx k:=by
 simp [List.eraseIdx_eq_take_drop_succ,List.map_take,List.map_drop]
def BagSt (us ss:List Tm) (q:Nat) (L M:List (Tm×Nat)):Prop:=(∀ e∈L,us[e.2]?=some e.1)∧(∀ e∈M,ss[e.2]?=some e.1) ∧
 (bagTwo us ss).1=(bagTwo (L.map (·.1)) (ss.drop q)).1∧(bagTwo us ss).2=M.map (·.1)++(bagTwo (L.map (·.1)) (ss.drop q)).2
theorem BagSt.start (us ss:List Tm):BagSt us ss 0 us.zipIdx []:=by
 have e:us.zipIdx.map (·.1)=us:=by
  apply List.ext_getElem?;intro k;rw [List.getElem?_map,List.getElem?_zipIdx];cases us[k]?<;>rfl
 refine ⟨fun x hx=>?_,(fun x hx=>by cases hx),?_,?_⟩
 .obtain ⟨a,p⟩:=x;obtain ⟨j,hj⟩:=List.mem_iff_getElem?.1 hx;rw [List.getElem?_zipIdx] at hj;cases hu:us[j]? with
  | none=>rw [hu] at hj;cases hj
  | some c=>rw [hu] at hj;simp at hj;rw [← hj.1,← hj.2];exact hu
 .rw [e,List.drop_zero]
 .rw [e,List.drop_zero];rfl
theorem BagSt.inn {us ss:List Tm} {q k p:Nat} {b:Tm} {L M:List (Tm×Nat)} (h:BagSt us ss q L M) (hb:ss[q]?=some b) (hk:L[k]?=some (b,p)) (hn:∀ (j:Nat) (e:Tm×Nat),j < k→L[j]?=some e→e.1≠b):BagSt us ss (q+1) (L.eraseIdx k) M:=by
 obtain ⟨h1,h2,h3,h4⟩:=h;obtain ⟨hq,rfl⟩:=List.getElem?_eq_some_iff.1 hb;obtain ⟨g1,g2⟩:=rmv_at (l:=L.map (·.1)) (k:=k) (b:=ss[q]) (by rw [List.getElem?_map,hk];rfl) (fun j a hj ha=>by
  rw [List.getElem?_map] at ha;obtain ⟨e,he,rfl⟩:=Option.map_eq_some_iff.1 ha;exact hn j e hj he)
 have e:(L.eraseIdx k).map (·.1)=(L.map (·.1)).eraseIdx k:=map_erase _ _ _;refine ⟨fun x hx=>h1 x (List.mem_of_mem_eraseIdx hx),h2,?_,?_⟩
 .rw [h3,List.drop_eq_getElem_cons hq,bagTwo_in g1,g2,e]
 .rw [h4,List.drop_eq_getElem_cons hq,bagTwo_in g1,g2,e]
theorem BagSt.out {us ss:List Tm} {q:Nat} {b:Tm} {L M:List (Tm×Nat)} (h:BagSt us ss q L M) (hb:ss[q]?=some b) (hn:∀ (j:Nat) (e:Tm×Nat),L[j]?=some e→e.1≠b):BagSt us ss (q+1) L (M++[(b,q)]):=by
 obtain ⟨h1,h2,h3,h4⟩:=h;have hb':=hb;obtain ⟨hq,rfl⟩:=List.getElem?_eq_some_iff.1 hb;have g:¬ ss[q]∈L.map (·.1):=by
  intro hm;obtain ⟨e,he,e2⟩:=List.mem_map.1 hm;obtain ⟨j,hj⟩:=List.mem_iff_getElem?.1 he;exact hn j e hj e2
 refine ⟨h1,fun x hx=>?_,?_,?_⟩
 .rcases List.mem_append.1 hx with hx | hx
  .exact h2 x hx
  .rw [List.mem_singleton.1 hx];exact hb'
 .rw [h3,List.drop_eq_getElem_cons hq,bagTwo_out g]
 .rw [h4,List.drop_eq_getElem_cons hq,bagTwo_out g];simp
theorem BagSt.done {us ss:List Tm} {q:Nat} {L M:List (Tm×Nat)} (h:BagSt us ss q L M) (hq:ss.length≤q):bagTwo us ss=(L.map (·.1),M.map (·.1)):=by
 obtain ⟨h1,h2,h3,h4⟩:=h;rw [List.drop_of_length_le hq] at h3 h4;have e:bagTwo (L.map (·.1)) []=(L.map (·.1),[]):=by unfold bagTwo;rfl
 rw [e] at h3 h4;rw [List.append_nil] at h4;exact Prod.ext h3 h4
def plT (i:Nat) (us:List Tm) (L:List (Tm×Nat)):List Int:=L.map fun e=>((pl i us e.2:Nat):Int)
theorem plT_start (i:Nat) (us:List Tm):starts (i+1) us=plT i us us.zipIdx:=by
 apply List.ext_getElem?;intro k;unfold plT;rw [List.getElem?_map,List.getElem?_zipIdx];by_cases hk:k < us.length
 .rw [starts_get hk,List.getElem?_eq_getElem hk];simp [pl]
 .rw [List.getElem?_eq_none (by rw [starts_len];omega),List.getElem?_eq_none Zo];rfl
theorem plT_get {i:Nat} {us:List Tm} {L:List (Tm×Nat)} {k:Nat} {x:Int} (h:(plT i us L)[k]?=some x):∃ e,L[k]?=some e∧x=((pl i us e.2:Nat):Int):=by
 unfold plT at h;rw [List.getElem?_map] at h;obtain ⟨e,h1,h2⟩:=Option.map_eq_some_iff.1 h;exact ⟨e,h1,h2.symm⟩
theorem plT_erase (i:Nat) (us:List Tm) (L:List (Tm×Nat)) (k:Nat):(plT i us L).eraseIdx k=plT i us (L.eraseIdx k):=by unfold plT;rw [map_erase]
theorem plT_len (i:Nat) (us:List Tm) (L:List (Tm×Nat)):(plT i us L).length=L.length:=by unfold plT;rw [List.length_map]
theorem plT_snoc (i:Nat) (us:List Tm) (L:List (Tm×Nat)) (b:Tm) (q:Nat):plT i us (L++[(b,q)])=plT i us L++[((pl i us q:Nat):Int)]:=by unfold plT;simp
theorem c_bagCl1 {X:LC} {p q g5 g12:Nat} {w:World} {b:Bool} (hb:X.same p q=b) (hP:X.P) (h:X.H w) (hp:p < X.t.length) (hq:q < X.s.length) (h5:w.cell? ⟨g5,0,none⟩=some (.pointer (some ⟨X.g,0,none⟩))) (h12:w.cell? ⟨g12,0,none⟩=some (.int .i64 (q:Int))) :
 Calls Tryz.prog 146 #[.int .i64 (p:Int),.pointer (some ⟨g5,0,none⟩),.pointer (some ⟨g12,0,none⟩)] w fun e w'=>e=.returned (.bool b)∧Ext w w':=by
 have HS:=Zh (c_same' hb hP h hp hq);clear hb hP h hp hq;go_enter Tryz.func146,Tryz.ntmps146;go_wp2_with fail
 (with_reducible refine HS.out.mono ?_);rintro e w1 ⟨rfl,hE1⟩;go_wp2;go_ret;exact ⟨rfl,hE1⟩
theorem c_bagCl2 {X:LC} {p q g5 g12:Nat} {w:World} {b:Bool} (hb:decide (0 < X.W p q)=b) (hG:X.Gr p q) (h:X.H w) (h5:w.cell? ⟨g5,0,none⟩=some (.pointer (some ⟨X.g,0,none⟩))) (h12:w.cell? ⟨g12,0,none⟩=some (.int .i64 (q:Int))) :
 Calls Tryz.prog 149 #[.int .i64 (p:Int),.pointer (some ⟨g5,0,none⟩),.pointer (some ⟨g12,0,none⟩)] w (X.Tell p q w (.bool b)):=by
 have HS:=Zh (hG.out hb h);clear hb hG h;go_enter Tryz.func149,Tryz.ntmps149;go_wp2_with fail
 (with_reducible refine HS.out.mono ?_);rintro e w1 ⟨rfl,hH1,hO1⟩;have HH1:=Zh hH1;clear hH1;go_wp2;go_ret;exact ⟨rfl,HH1.out,hO1⟩
theorem HoN.ext {w w':World} {B n c:Nat} {A:Option Addr} {xs:List Int} (h:HoN w B A n c xs) (k:Ext w w'):HoN w' B A n c xs:=by
 have h':=h;obtain ⟨_,_,_,_,h3⟩:=h';refine h.heap k.size fun g e=>?_;rcases h3 with ⟨h0,_⟩ | ⟨b,h1,_,h2,_⟩
 .rw [h0] at e;cases e
 .rw [h1] at e;cases e;exact k.block _ h2
theorem anyG_plT {X:LC} (hP:X.P) {i j:Nat} {x y:Int} {us ss:List Tm} (hA:X.At i j x us y ss) {L:List (Tm×Nat)} (hL:∀ e∈L,us[e.2]?=some e.1) {q:Nat} {b:Tm} (hb:ss[q]?=some b) :
 (plT i us L).any (fun x=>decide (0 < X.W x.toNat (pl j ss q)))=anyG X.V (L.map (·.1)) b:=by
 unfold plT anyG;rw [List.any_map,List.any_map];refine any_congr fun e he=>?_;show decide (0 < X.W (pl i us e.2) (pl j ss q))=decide (0 < X.V e.1 b);rw [(hA.both hP (hL e he) hb).2.1]
def ApartA (A B:Option Addr):Prop:=∀ b c,A=some ⟨b,0,none⟩→B=some ⟨c,0,none⟩→b≠c
theorem c_bagArgs (X:LC):X.Bags:=by
 intro i j x y us ss A B cA cB w hP h hA hl hm ho hAg hBg ih;have hul:=hm.le;have hus3:us.length≤3:=arI_le hP.sig (Ok_node.1 (hA.ok hP).1).1;have hss3:ss.length≤3:=by omega
 have HLT:=Zh h.lt;have HM:=Zh hm;rw [plT_start] at HM;have HH:=Zh h;have HA:=Zh hA;have HO:=Zh ho;have HBG:=Zh hBg;have HI:=Zh ih;have HP:=Zh hP;have he1:∀ (args:Array Value) (w:World),(callFunc 146 args).run Tryz.prog w=.ok (.enter 146 args) w:=enters_of Tryz.func146 Zk rfl;have he2:∀ (args:Array Value) (w:World),(callFunc 149 args).run Tryz.prog w=.ok (.enter 149 args) w:=enters_of Tryz.func149 Zk rfl;have HE1:=Zh he1;have HE2:=Zh he2;obtain ⟨i0,hii,hiz,his,hib⟩:=info_parts int_info;clear h hA hl hm ho hAg hBg ih hP he1 he2;go_enter Tryz.func143,Tryz.ntmps143;go_wp2_with fail;obtain ⟨wo,hwo⟩:∃ wo,wo=(w.alloc (.cells #[] 96)).alloc (.cells #[.pointer (some ⟨X.g,0,none⟩)] 152):=⟨_,rfl⟩;have hEo:Ext w wo:=by rw [hwo];exact extX
 have h5:wo.cell? ⟨w.heap.size+1,0,none⟩=some (.pointer (some ⟨X.g,0,none⟩)):=by rw [hwo];simp [go_sem]
 have HWO:=Zh hwo;rw [← hwo];clear hwo
 (with_reducible refine (c_cloneN (RI.ext HM.out hEo)).mono ?_);rintro e w1 ⟨A1,n1,c1,rfl,hO1,hE1⟩;have hn1:n1≤3:=by rw [← hO1.len,plT_len,List.length_zipIdx];exact hus3
 have HO1:=Zh hO1.ho;have hszo:w.heap.size+2≤wo.heap.size:=by rw [HWO.out];simp [go_sem]
 clear hO1;go_wp2_with fail;go_loopw [9,10,20] (fun lv rv iv wr=>∃ q:Nat,iv=.int .i64 q∧q≤ss.length∧(∃ A n c A' n' c',lv=.slice A n c∧n≤3∧rv=.slice A' n' c'∧n'≤q∧Hid (ApartA A A'∧∃ L M,BagSt us ss q L M∧HoN wr wo.heap.size A n c (plT i us L)∧OwN wr wo.heap.size A' n' c' (plT j ss M)))∧Ext wo wr) (fun _ _ iv _=>ss.length - (intOf iv).toNat)
 case atStart=>exact ⟨0,rfl,Nat.zero_le _,⟨A1,n1,c1,none,0,0,rfl,hn1,rfl,Nat.le_refl _,Zh ⟨(fun b c _ h=>by cases h),us.zipIdx,[],BagSt.start us ss,HO1.out,⟨Zo,by simp [plT];exact World.ownsRow_nil _ _ _ _⟩⟩⟩,hE1⟩
 case round=>
  obtain ⟨q,rfl,hq,⟨A2,n2,c2,A3,n3,c3,rfl,hn2,rfl,hn3,hSt⟩,hE⟩:=hrel;obtain ⟨hap,L,M,hst,hho,how⟩:=hSt.out;have HST:=Zh hst;have HHO:=Zh hho;have HOW:=Zh how;have HAP:=Zh hap;have hEw:Ext w wr:=Ext.trans hEo hE;have h5r:=Ext.keep hE h5;have HHr:=Zh (HH.out.ext hEw);clear hst hho how hap hSt;by_cases hlt:q < ss.length
  .obtain ⟨b,hb⟩:∃ b,ss[q]?=some b:=⟨ss[q],List.getElem?_eq_getElem hlt⟩;obtain ⟨b3,o3,rfl,hc3⟩:=RI.starts_at (HO.out.ext hEw) hlt;have hq1:(q:Int) < (ss.length:Int):=by omega
   have hq0:(0:Int)≤(q:Int):=by omega
   have HBK:=Zh hb;obtain ⟨P2,hP2⟩:∃ P2,P2=pl j ss q:=⟨_,rfl⟩;rw [← hP2] at hc3;have HP2:=Zh hP2;clear hb hP2;go_wp2_with fail;obtain ⟨wq,hwq⟩:∃ wq,wq=wr.alloc (.cells #[.int .i64 (P2:Int)] 3):=⟨_,rfl⟩;have hEq:Ext wr wq:=by rw [hwq];exact extX
   have h12:wq.cell? ⟨wr.heap.size,0,none⟩=some (.int .i64 (P2:Int)):=by rw [hwq];simp [go_sem]
   rw [← hwq];clear hwq;have h5q:=Ext.keep hEq h5r;have HHq:=Zh (HHr.out.ext hEq);have HHOq:=Zh (HHO.out.ext hEq);have HCL:Hid (∀ (k:Nat) (x:Int),(plT i us L)[k]?=some x→∀ wr',Ext wq wr'→Calls Tryz.prog 146 (#[.int .i64 x]++#[.pointer (some ⟨w.heap.size+1,0,none⟩),.pointer (some ⟨wr.heap.size,0,none⟩)]) wr' (fun e w'=>e=.returned (.bool (X.same x.toNat P2))∧Ext wq w')):=Zh (by
    intro k x hx wr' hE';obtain ⟨e,he,rfl⟩:=plT_get hx;have hb2:=HA.out.both HP.out (HST.out.1 e (List.mem_of_getElem? he)) HBK.out;rw [← HP2.out] at hb2;rw [Int.toNat_natCast];exact (c_bagCl1 rfl HP.out (HHq.out.ext hE') hb2.1.1 hb2.1.2 (Ext.keep hE' h5q) (Ext.keep hE' h12)).mono fun e2 w2 h=>⟨h.1,hE'.trans h.2⟩)
   have HEQ:Hid (∀ e∈L,X.same (pl i us e.2) P2=true↔e.1=b):=Zh (by
    intro e he;have hb2:=HA.out.both HP.out (HST.out.1 e he) HBK.out;rw [← HP2.out] at hb2;rw [hb2.2.2,decide_eq_true_eq];exact flat_eq (OkL_iff.1 (Ok_node.1 (HA.out.ok HP.out).1).2 e.1 (List.mem_of_getElem? (HST.out.1 e he))) (OkL_iff.1 (Ok_node.1 (HA.out.ok HP.out).2).2 b (List.mem_of_getElem? HBK.out)))
   (with_reducible refine (c_indexFuncN (xs:=plT i us L) (p:=fun x=>X.same x.toNat P2) (S:=fun w'=>Ext wq w') HE1.out (Ext.refl _) (fun wr' h=>HHOq.out.ri.ext h) HCL.out).mono ?_);rintro e w5 ⟨r,rfl,hI,hE5⟩;have hE5w:Ext wo w5:=Ext.trans hE (Ext.trans hEq hE5);have HHO5:=Zh (HHOq.out.ext hE5);have HOW5:=Zh (HOW.out.ext (Ext.trans hEq hE5));have h125:=Ext.keep hE5 h12;rcases hI with ⟨k,x,rfl,hx,hpx,hno⟩ | ⟨rfl,hno⟩
   .obtain ⟨⟨b',p⟩,he,rfl⟩:=plT_get hx;have hbb:b'=b:=(HEQ.out (b',p) (List.mem_of_getElem? he)).1 hpx;subst hbb;have HN:=Zh (HST.out.inn HBK.out he fun m e hm hme=>fun e1=>by
     have h1:=(HEQ.out e (List.mem_of_getElem? hme)).2 e1;have h2:X.same (pl i us e.2) P2=false:=hno m ((pl i us e.2:Nat):Int) hm (by unfold plT;rw [List.getElem?_map,hme];rfl);rw [h1] at h2;cases h2)
    have hkn:k < n2:=by
     have h1:=(List.getElem?_eq_some_iff.1 hx).1;rw [HHO.out.1] at h1;exact h1
    obtain ⟨b2,rfl,hb2,hb2l⟩:=HHO5.out.bd Zo;have hk0:(0:Int)≤(k:Int):=by omega
    have hk3:(k:Int)≤3:=by omega
    clear hx hpx hno he;go_wp2_with fail
    (with_reducible refine (c_deleteN HHO5.out hkn).mono ?_);rintro e w6 ⟨rfl,hho6,hO6⟩;have HHO6:=Zh hho6;have hE6w:Ext wo w6:=Only.ext hO6 hE5w hb2;have HOW6:=Zh (HOW5.out.heap (w':=w6) fun g e=>hO6.block g (HOW5.out.bd _ _ _ e).2 (fun e2=>HAP.out b2 g rfl e (by injection e2 with e2;exact e2.symm)));clear hho6 hO6;go_wp2;go_roundw
    case rel=>exact ⟨q+1,by go_num,Zo,⟨_,_,_,_,_,_,rfl,Zo,rfl,Zo,Zh ⟨HAP.out,L.eraseIdx k,M,HN.out,by rw [← plT_erase];exact HHO6.out,HOW6.out⟩⟩,hE6w⟩
    case measure=>exact mq23
   .have HN:=Zh (HST.out.out HBK.out fun m e hme=>fun e1=>by
     have h1:=(HEQ.out e (List.mem_of_getElem? hme)).2 e1;have h2:X.same (pl i us e.2) P2=false:=hno m ((pl i us e.2:Nat):Int) (by unfold plT;rw [List.getElem?_map,hme];rfl);rw [h1] at h2;cases h2)
    have hsz5:=hE5w.size;clear hno;go_wp2_with (at_builtin;go_loud (refine wpList_append_lies _ rfl (.tmp 34) (.tmp 36) 135 rfl wo.heap.size 3 i0 (.int .i64 0) 1 8 Tryz.underlying135 hii hiz his hib rfl (by decide) _ _ _ rfl (OwN.alloc HOW5.out _).2 ⟨w5.heap.size,0,none⟩ 1 1 [.int .i64 (P2:Int)] rfl rfl (one_cells _ _ _) (one_one _) (by decide) (by unfold maxLen;omega) Zo (by go_size) _ rfl ?_))
    intro g6 cap w6 hown hg hat hltg;have hE6w:Ext wo w6:=Ext.grown (hE5w.alloc _) hg (fun k hk=>HOW5.out.ob k hk);have HOW6:=Zh (show OwN w6 wo.heap.size (some ⟨g6,0,none⟩) (n3+1) cap (plT j ss (M++[(b,q)])) from ⟨Zo,by rw [plT_snoc,← HP2.out,List.map_append];exact hown⟩);have hgne:Hid (∀ b2,A2=some ⟨b2,0,none⟩→b2≠g6∧b2 < w5.heap.size∧some b2≠(Value.slice A3 n3 c3).ownBlock):=Zh (by
     rintro b2 rfl;have h1:b2 < w5.heap.size:=by
      have h0:=HHO5.out;obtain ⟨_,_,_,_,h3⟩:=h0;rcases h3 with ⟨h3,_⟩ | ⟨b',h3,_,h4,_⟩
      .cases h3
      .cases h3;exact h4
     have h2:some b2≠(Value.slice A3 n3 c3).ownBlock:=by
      intro e2;cases A3 with
      | none=>cases e2
      | some p3=>
       obtain ⟨g',o',s'⟩:=p3;rcases HOW5.out.form with ⟨h0,_⟩ | ⟨g'',h0,_⟩
       .cases h0
       .cases h0;injection e2 with e2
        exact HAP.out b2 g' rfl rfl e2
     refine ⟨?_,h1,h2⟩;rintro rfl;rcases hat with e2 | e2
     .exact h2 e2.symm
     .omega)
    have HHO6:=Zh (HHO5.out.heap (w':=w6) (by have:=hg.size;simp [go_sem] at this;omega) fun b2 e=>(hg.block b2 (by have:=(hgne.out b2 e).2.1;simp [go_sem];omega) (hgne.out b2 e).2.2).trans ((Ext.alloc (Ext.refl w5) _).block b2 (hgne.out b2 e).2.1));have HAP6:=Zh (show ApartA A2 (some ⟨g6,0,none⟩) from fun b2 c e1 e2=>by cases e2;exact (hgne.out b2 e1).1);clear hown hg hat hgne;go_wp2;go_roundw
    case rel=>exact ⟨q+1,by go_num,Zo,⟨_,_,_,_,_,_,rfl,Zo,rfl,Zo,Zh ⟨HAP6.out,L,M++[(b,q)],HN.out,HHO6.out,HOW6.out⟩⟩,hE6w⟩
    case measure=>exact mq23
  .have HD:=Zh (HST.out.done Zo);have hng:X.g < wo.heap.size:=by have:=HLT.out;omega
   have hLl:L.length=n2:=by rw [← plT_len i us L];exact HHO.out.1
   have hMl:M.length=n3:=by rw [← plT_len j ss M];exact HOW.out.len
   have HLL:=Zh hLl;have HML:=Zh hMl;have HAG2:=Zh (show ∀ b o s,A2=some ⟨b,o,s⟩→0 < n2→b≠X.g from fun b o s e hn=>by
    obtain ⟨b2,e2,h2,_⟩:=HHO.out.bd hn;rw [e] at e2;cases e2;omega)
   have HAG3:=Zh (show ∀ b o s,A3=some ⟨b,o,s⟩→0 < n3→b≠X.g from fun b o s e _=>by have:=HOW.out.bd b o s e;omega);have HR2:=Zh HHO.out.ri;have HR3:=Zh HOW.out.ri;have hn3m:n3≤4194304:=by omega
   have h5g:w.heap.size+1≠X.g:=by have:=HLT.out;omega
   clear hLl hMl;go_wp2_with fail;obtain ⟨wl,hwl⟩:∃ wl,wl=wr:=⟨_,rfl⟩;have hEl:Ext wo wl:=by rw [hwl];exact hE
   have HHl:Hid (X.H wl):=by rw [hwl];exact HHr
   have HR2l:Hid (RI wl A2 n2 (plT i us L)):=by rw [hwl];exact HR2
   have HR3l:Hid (RI wl A3 n3 (plT j ss M)):=by rw [hwl];exact HR3
   have h5l:wl.cell? ⟨w.heap.size+1,0,none⟩=some (.pointer (some ⟨X.g,0,none⟩)):=by rw [hwl];exact h5r
   have hEwl:Ext w wl:=Ext.trans hEo hEl;rw [← hwl];clear hwl HHr HR2 HR3 h5r hE hEw HHO HOW;go_loopw [41] (fun iv wr=>∃ m:Nat,iv=.int .i64 m∧m≤n3∧Hid (∀ (p:Nat) (e:Tm×Nat),p < m→M[p]?=some e→anyG X.V (L.map (·.1)) e.1=true)∧Hid (X.H wr)∧Hid (Only wl wr X.g)) (fun iv _=>n3 - (intOf iv).toNat)
   case atStart=>exact ⟨0,rfl,Nat.zero_le _,Zh (fun p e hp=>Zo),HHl,Zh (Only.refl _ _)⟩
   case round=>
    obtain ⟨m,rfl,hm,hall,hHm,hOm⟩:=hrel;by_cases hlm:m < n3
    .obtain ⟨b3,o3,z,rfl,hz,hcz⟩:=RI.at_ (HR3l.out.only hOm.out HAG3.out) hlm;obtain ⟨⟨b,q3⟩,he,rfl⟩:=plT_get hz;have hbk:=HST.out.2.1 _ (List.mem_of_getElem? he);have hq3:q3 < ss.length:=(List.getElem?_eq_some_iff.1 hbk).1;have HME:=Zh he;have HBK:=Zh hbk;have hm1:(m:Int) < (n3:Int):=by omega
     have hm0:(0:Int)≤(m:Int):=by omega
     obtain ⟨P3,hP3⟩:∃ P3,P3=pl j ss q3:=⟨_,rfl⟩;have hcz':wr.cell? ⟨b3,o3+m,none⟩=some (.int .i64 (P3:Int)):=by rw [hP3];exact hcz
     have HP3:=Zh hP3;have h5m:=Only.keep hOm.out h5g h5l;clear hz he hbk hcz hP3;go_wp2_with fail;obtain ⟨wq,hwq⟩:∃ wq,wq=wr.alloc (.cells #[.int .i64 (P3:Int)] 3):=⟨_,rfl⟩;have hEq:Ext wr wq:=by rw [hwq];exact extX
     have h12:wq.cell? ⟨wr.heap.size,0,none⟩=some (.int .i64 (P3:Int)):=by rw [hwq];simp [go_sem]
     have h12g:wr.heap.size≠X.g:=by have:=hOm.out.size;have:=hEl.size;omega
     rw [← hwq];clear hwq;have h5q:=Ext.keep hEq h5m;have HHq:=Zh (hHm.out.ext hEq);have HR2q:=Zh ((HR2l.out.only hOm.out HAG2.out).ext hEq);have HCL:Hid (∀ (k:Nat) (x:Int),(plT i us L)[k]?=some x→∀ wr',(X.H wr'∧Only wq wr' X.g)→Calls Tryz.prog 149 (#[.int .i64 x]++#[.pointer (some ⟨w.heap.size+1,0,none⟩),.pointer (some ⟨wr.heap.size,0,none⟩)]) wr' (fun e w'=>e=.returned (.bool (decide (0 < X.W x.toNat P3)))∧(X.H w'∧Only wq w' X.g))):=Zh (by
      intro k x hx wr' hE';obtain ⟨e,he,rfl⟩:=plT_get hx;have hp:e.2 < us.length:=(List.getElem?_eq_some_iff.1 (HST.out.1 e (List.mem_of_getElem? he))).1;have hG:=HI.out e.2 q3 hp hq3;rw [← HP3.out] at hG;rw [Int.toNat_natCast];exact (c_bagCl2 rfl hG hE'.1 (Only.keep hE'.2 h5g h5q) (Only.keep hE'.2 h12g h12)).mono fun e2 w2 h=>⟨h.1,h.2.1,hE'.2.trans h.2.2⟩)
     have HANY:=Zh (anyG_plT HP.out HA.out HST.out.1 HBK.out);rw [← HP3.out] at HANY;have HCF:=Zh (c_containsFuncN (c:=c2) (p:=fun x=>decide (0 < X.W x.toNat P3)) (S:=fun w'=>X.H w'∧Only wq w' X.g) HE2.out ⟨HHq.out,Only.refl _ _⟩ (fun wr' h=>HR2q.out.only h.2 HAG2.out) HCL.out);rw [HANY.out] at HCF;cases hany:anyG X.V (L.map (·.1)) b with
     | true=>
      have HN:=Zh (show ∀ (p:Nat) (e:Tm×Nat),p < m+1→M[p]?=some e→anyG X.V (L.map (·.1)) e.1=true from fun p e hp he=>by
       rcases Nat.lt_or_ge p m with h | h
       .exact hall.out p e h he
       .obtain rfl:p=m:=by omega
        rw [HME.out] at he;cases he;exact hany)
      rw [hany] at HCF;clear hany
      (with_reducible refine HCF.out.mono ?_);rintro e w5 ⟨rfl,hH5,hO5⟩;have HH5:=Zh hH5;have HO5:=Zh hO5;clear hH5 hO5;go_wp2;go_roundw
      case rel=>exact ⟨m+1,by go_num,Zo,HN,HH5,Zh (hOm.out.trans ((Only.of_ext hEq _).trans HO5.out))⟩
      case measure=>exact mq23
     | false=>
      have HR:=Zh (show bagG X.V us ss=false by
       unfold bagG;rw [HD.out];rw [show allG X.V (L.map (·.1)) (M.map (·.1))=false from by
        unfold allG;rw [List.all_eq_false];exact ⟨b,List.mem_map.2 ⟨(b,q3),List.mem_of_getElem? HME.out,rfl⟩,by rw [hany];decide⟩]
       rfl)
      rw [hany] at HCF;clear hany
      (with_reducible refine HCF.out.mono ?_);rintro e w5 ⟨rfl,hH5,hO5⟩;have HH5:=Zh hH5;clear hH5;go_wp2;go_ret;exact ⟨ret_bool HR.out.symm,HH5.out,(Only.of_ext hEwl _).trans (hOm.out.trans ((Only.of_ext hEq _).trans hO5))⟩
    .have hmn:m=n3:=by omega
     have HR:=Zh (show bagG X.V us ss=decide (0 < n2) by
      unfold bagG;rw [HD.out];rw [show allG X.V (L.map (·.1)) (M.map (·.1))=true from by
       unfold allG;rw [List.all_eq_true];intro b hb;obtain ⟨e,he,rfl⟩:=List.mem_map.1 hb;obtain ⟨p,hp,e2⟩:=List.mem_iff_getElem.1 he;exact hall.out p e (by rw [hmn,← HML.out];exact hp) (by rw [List.getElem?_eq_getElem hp,e2])]
      rw [Bool.true_and,List.length_map,HLL.out])
     go_wp2;go_ret;exact ⟨ret_bool HR.out.symm,hHm.out,(Only.of_ext hEwl _).trans hOm.out⟩

