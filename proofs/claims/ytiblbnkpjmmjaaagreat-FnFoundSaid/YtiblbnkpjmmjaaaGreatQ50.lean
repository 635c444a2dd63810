/- -/
import Derived.Test.YtiblbnkpjmmjaaaGreatQ49
set_option maxRecDepth 100000
set_option maxHeartbeats 16000000
set_option linter.all false
namespace Go.Proofs.YtiblbnkpjmmjaaaGreat
open Go.RowKit
def RIg (w:World) (g:Nat) (A:Option Addr) (n:Nat) (xs:List Int):Prop:=RI w A n xs∧∀ b o s,A=some ⟨b,o,s⟩→b≠g
theorem RIg.only {w w':World} {g n:Nat} {A:Option Addr} {xs:List Int} (h:RIg w g A n xs) (k:Only w w' g):RIg w' g A n xs:=⟨RI.only h.1 k fun b o s e _=>h.2 b o s e,h.2⟩
theorem OwI.fresh {w:World} (xs:List Int) (hn:xs.length≤4194304):OwI (w.alloc (.cells (xs.map (Value.int .i64)).toArray 2)) w.heap.size (some ⟨w.heap.size,0,none⟩) xs.length xs.length xs:=by
 refine ⟨hn,by simp,.inr ⟨w.heap.size,xs.length,_,rfl,Nat.le_refl _,heap_alloc_new w _,Nat.le_refl _,by unfold maxLen;omega,by simp,by simp [List.take_of_length_le]⟩⟩
theorem c_big {v:Value} {n:Nat} {b:Bool} {w:World} (hb:decide (4096 < n)=b) (h0:RawBy w v n):Calls Tryz.prog 4 #[v] w fun e w'=>e=.returned (.bool b)∧Ext w w':=by
 obtain ⟨A,c,rfl,hn,_⟩:=h0;go_enter Tryz.func4,Tryz.ntmps4;go_wp2;go_ret;exact ⟨ret_bool (by rw [← hb];simp;try omega),Ext.refl _⟩
theorem mq50 {p:Prop} (h:p:=by simp only [intOf];omega):p:=h
theorem c_roll {v:Value} {n:Nat} {seed:Int} {w:World} (h0:RawBy w v n) (hn:n≤4096) :
 Calls Tryz.prog 5 #[v,.int .u64 seed] w fun e w'=>∃ g,e=.returned (.pointer (some ⟨g,0,none⟩))∧Dice w' g∧w.heap.size≤g∧Ext w w':=by
 obtain ⟨A,c,rfl,_,hb⟩:=h0;have HB:=Zh hb;clear hb;go_enter Tryz.func5,Tryz.ntmps5;go_wp2_with fail;obtain ⟨wb,hwb⟩:∃ wb,wb=w.alloc (.cells #[.slice A n c,.int .i64 0,.int .u64 (IntKind.u64.wrap (IntKind.u64.wrap (seed * 7919)+(n:Int)))] 49):=⟨_,rfl⟩;have hS:Hid (∃ hh:Int,wb.cell? ⟨w.heap.size,0,none⟩=some (.slice A n c)∧wb.cell? ⟨w.heap.size,1,none⟩=some (.int .i64 0)∧wb.cell? ⟨w.heap.size,2,none⟩=some (.int .u64 hh)∧∀ j,wb.frozen? ⟨w.heap.size,j,none⟩=false):=Zh ⟨_,by rw [hwb];simp [go_sem],by rw [hwb];simp [go_sem],by rw [hwb];simp [go_sem];rfl,fun j=>by rw [hwb];simp [go_sem]⟩;have hEb:Ext w wb:=by rw [hwb];exact extX
 rw [← hwb];clear hwb;go_loopw [6] (fun i wr=>∃ k:Nat,i=.int .i64 k∧k≤n∧Hid (∃ hh:Int,wr.cell? ⟨w.heap.size,0,none⟩=some (.slice A n c)∧wr.cell? ⟨w.heap.size,1,none⟩=some (.int .i64 0)∧wr.cell? ⟨w.heap.size,2,none⟩=some (.int .u64 hh)∧∀ j,wr.frozen? ⟨w.heap.size,j,none⟩=false)∧Ext w wr) (fun i _=>n - (intOf i).toNat)
 case atStart=>exact ⟨0,rfl,Nat.zero_le _,hS,hEb⟩
 case round=>
  obtain ⟨k,rfl,hk,hT,hE⟩:=hrel;obtain ⟨hh,c0,c1,c2,cf⟩:=hT.out;by_cases hlt:k < n
  .obtain ⟨b,o,rfl,h4⟩:=HB.out Zo;obtain ⟨y,hyw,hy2⟩:=h4 k hlt;have hy:=Ext.keep hE hyw;have hki:(k:Int) < (n:Int):=by omega
   have hk0:(0:Int)≤(k:Int):=by omega
   go_wp2_with fail;go_still_tail 13,Zk
   change wpList _ _ _ _ _ wr.drew
   go_wp2_with fail;go_roundw
   case rel=>exact ⟨k+1,by go_num,Zo,Zh ⟨_,(World.cell?_setCell_other _ _ _ _ (by simp)).trans c0,(World.cell?_setCell_other _ _ _ _ (by simp)).trans c1,World.cell?_setCell_same _ _ _ c2,fun j=>by simp [cf]⟩,extX⟩
   case measure=>exact mq50
  .go_wp2;go_ret;refine ⟨w.heap.size,rfl,⟨⟨A,n,c,0,hh,c0,c1,c2,Nat.zero_le _,hn,fun h3=>?_⟩,cf⟩,Nat.le_refl _,hE⟩;obtain ⟨b,o,e,h4⟩:=HB.out h3;refine ⟨b,o,e,?_,fun j hj=>by obtain ⟨y,h5,h6⟩:=h4 j hj;exact ⟨y,Ext.keep hE h5,h6⟩⟩;obtain ⟨y,h5,_⟩:=h4 0 h3;exact World.block_lt_of_cell? w _ h5
theorem c_w9Sig {w:World}:Calls Tryz.prog 15 #[] w (NewSig w [2,1,0]):=by
 go_enter Tryz.func15,Tryz.ntmps15;go_wp2_with fail;have HO:=Zh (OwI.fresh (w:=w.alloc (.cells #[.slice (some ⟨w.heap.size+1,0,none⟩) 3 3] 29)) [2,1,0] (by decide));refine bodyPost_ret (v:=.agg #[.slice (some ⟨w.heap.size+1,0,none⟩) 3 3]) (by simp [results,Tryz.results15,go_sem]) rfl ⟨_,3,3,rfl,?_,extX⟩;have:=HO.out.lower (B':=w.heap.size) (by simp)
 simpa using this
theorem RI.lit {w:World} {g:Nat} {xs:List Int} {T:TypeId} (hh:w.heap[g]?=some (.cells (xs.map (Value.int .i64)).toArray T (0,0))) (hn:xs.length≤4194304):RI w (some ⟨g,0,none⟩) xs.length xs:=
 ⟨⟨rfl,hn⟩,fun _=>⟨g,0,rfl,fun j x hx=>by rw [Nat.zero_add,cell_of_row w g _ _ _ (0,0) hh];simp [hx]⟩⟩
def allocs (w:World) (os:List Obj):World:=os.foldl (fun w o=>w.alloc o) w
theorem allocs_heap:∀ (os:List Obj) (w:World),(allocs w os).heap=w.heap++os.toArray
 | [],w=>by simp [allocs]
 | o :: os,w=>by
  show (allocs (w.alloc o) os).heap=_;rw [allocs_heap os (w.alloc o)];show w.heap.push o++os.toArray=_;rw [Array.push_eq_append,Array.append_assoc];simp
theorem allocs_at (w:World) (os:List Obj) (j:Nat):(allocs w os).heap[w.heap.size+j]?=os[j]?:=by
 rw [allocs_heap,Array.getElem?_append_right Zo];simp
theorem Only.grown {w0 w w':World} {g:Nat} {row:Option Nat} (h:Only w0 w g) (k:w.grownBy w' row) (hr:∀ b,row=some b→w0.heap.size≤b):Only w0 w' g:=
 ⟨k.os.trans h.os,k.tape.trans h.tape,k.output.trans h.output,Nat.le_trans h.size k.size,fun i hi hne=>(k.block i (Nat.lt_of_lt_of_le hi h.size) (fun e=>by have:=hr i e.symm;omega)).trans (h.block i hi hne)⟩
theorem Dice.grown {w w':World} {g:Nat} {row:Option Nat} (h:Dice w g) (k:w.grownBy w' row) (hr:∀ b,row=some b→g < b):Dice w' g:=
 h.below (Below.grown (Below.refl _ _) k (by have:=h.lt;omega) (fun b hb=>hr b hb))
theorem OwI.only {w w':World} {g B n c:Nat} {A:Option Addr} {xs:List Int} (h:OwI w B A n c xs) (k:Only w w' g) (hg:g < B):OwI w' B A n c xs:=
 h.heap fun b e=>by have h1:=h.bd b 0 none e;exact k.block b h1.2 (fun e2=>by cases e2;omega)
def bdT:Nat→Nat
 | 0=>1
 | d+1=>1+2 * bdT d
theorem bdT_le:∀ {d:Nat},d≤3→bdT d≤15
 | 0,_=>by decide
 | 1,_=>by decide
 | 2,_=>by decide
 | 3,_=>by decide
 | d+4,h=>Zo
theorem arI3 {y:Nat} (h:y≤2):arI [2,1,0] (y:Int)=some (2 - y):=by
 match y,h with
 | 0,_=>decide
 | 1,_=>decide
 | 2,_=>decide
def NewTm (w:World) (g d:Nat) (vars:Int) (e:Ending) (w':World):Prop:=∃ (A:Option Addr) (n c:Nat) (u:Tm),e=.returned (.slice A n c)∧OwI w' w.heap.size A n c u.flat∧u.Ok [2,1,0]∧(∀ x∈u.flat,-vars≤x)∧n≤bdT d∧Dice w' g∧Only w w' g
theorem c_w9Term_step {g d:Nat} {vars z:Int} {w:World} (hv:0≤vars) (hv2:vars≤10) (hd:d≤3) (hz:z=(d:Int)+1) (h0:Dice w g)
 (ih:d≠0→∀ (z:Int) {w:World},z=(d:Int)→Dice w g→Calls Tryz.prog 43 #[.pointer (some ⟨g,0,none⟩),.int .i64 z,.int .i64 vars] w (NewTm w g (d - 1) vars)) :
 Calls Tryz.prog 43 #[.pointer (some ⟨g,0,none⟩),.int .i64 z,.int .i64 vars] w (NewTm w g d vars):=by
 have HD:=Zh h0;have hgl:=h0.lt;have HI:=Zh ih;obtain ⟨i0,hii,hiz,his,hib⟩:=info_parts int64_info;clear h0 ih;rcases Int.lt_or_le 0 vars with hv0 | hv0
 go_enter Tryz.func43,Tryz.ntmps43;go_wp2_with fail
 (with_reducible refine (c_below HD.out Zo Zo).mono ?_);rintro e w1 ⟨x,rfl,hx,hD1,hO1⟩;by_cases hx0:x=0
 .subst hx0;have hs1:=hO1.size;go_wp2_with fail
  (with_reducible refine (c_below hD1 Zo Zo).mono ?_);rintro e w2 ⟨y,rfl,hy,hD2,hO2⟩;have hs2:=hO2.size;have HO:=Zh (OwI.fresh (w:=w2) [-1 - y] (by simp));have hyw:IntKind.i64.wrap (-1 - y) = -1 - y:=IntWalk.i64_in _ Zo;go_wp2;go_ret;refine ⟨some ⟨w2.heap.size,0,none⟩,1,1,.node (-1 - y) [],rfl,?_,?_,?_,?_,hD2.ext ((Ext.refl w2).alloc _),(hO1.trans hO2).trans (Only.of_ext ((Ext.refl w2).alloc _) g)⟩
  .rw [flat_node,flatL_nil];exact HO.out.lower Zo
  .rw [Ok_node];exact ⟨by unfold arI;rw [if_pos Zo];rfl,by simp [OkL]⟩
  .rw [flat_node,flatL_nil];intro q hq;rw [List.mem_singleton.1 hq];omega
  .cases d<;>simp [bdT]
 have hxb:(x == 0)=false:=by simpa using hx0
 go_wp2_with fail
 rotate_left 1
 go_enter Tryz.func43,Tryz.ntmps43;go_wp2_with fail;have hD1:=HD.out;have hO1:=Only.refl w g
 all_goals
  (with_reducible refine (c_below hD1 Zo Zo).mono ?_);rintro e w2 ⟨y,rfl,hy,hD2,hO2⟩;have hO02:Only w w2 g:=hO1.trans hO2;have hs2:=hO02.size;by_cases hd0:d=0
  .subst hd0;have HO:=Zh (OwI.fresh (w:=w2) [2] (by simp));go_wp2_with fail;go_loopw [8,9] (fun ov kv wr=>ov=.slice (some ⟨w2.heap.size,0,none⟩) 1 1∧kv=.int .i64 2∧wr=w2.alloc (.cells #[.int .i64 2] 2)) (fun _ _ _=>0)
   case atStart=>exact ⟨rfl,rfl,rfl⟩
   case round=>
    obtain ⟨rfl,rfl,rfl⟩:=hrel;go_wp2;go_ret;refine ⟨_,1,1,.node 2 [],rfl,?_,?_,?_,?_,hD2.ext ((Ext.refl w2).alloc _),hO02.trans (Only.of_ext ((Ext.refl w2).alloc _) g)⟩
    .rw [flat_node,flatL_nil];exact HO.out.lower Zo
    .rw [Ok_node];exact ⟨arI3 (y:=2) Zo,by simp [OkL]⟩
    .rw [flat_node,flatL_nil];intro q hq;rw [List.mem_singleton.1 hq];omega
    .simp [bdT]
  .obtain ⟨d',rfl⟩:∃ d',d=d'+1:=⟨d - 1,Zo⟩;obtain ⟨y',rfl⟩:=Int.eq_ofNat_of_zero_le hy.1;have HO:=Zh (OwI.fresh (w:=w2) [(y':Int)] (by simp));have hzw:IntKind.i64.wrap (z - 1)=z - 1:=IntWalk.i64_in _ Zo;have hb15:=bdT_le (d:=d') Zo;have hD2b:=Zh (hD2.ext ((Ext.refl w2).alloc (.cells #[.int .i64 (y':Int)] 2)));have hO2b:=Zh (hO02.trans (Only.of_ext ((Ext.refl w2).alloc (.cells #[.int .i64 (y':Int)] 2)) g));go_wp2_with fail;go_loopw [8,9] (fun ov kv wr=>∃ k:Nat,kv=.int .i64 k∧y'≤k∧k≤2∧(∃ A n c,ov=.slice A n c∧n≤1+(k - y') * bdT d'∧Hid (∃ us,OwI wr w.heap.size A n c ((y':Int) :: flatL us)∧OkL [2,1,0] us∧us.length=k - y'∧∀ q∈flatL us,-vars≤q))∧Hid (Dice wr g∧Only w wr g)) (fun _ kv _=>2 - (intOf kv).toNat)
   case atStart=>exact ⟨y',rfl,Nat.le_refl _,Zo,⟨_,_,_,rfl,Zo,Zh ⟨[],by rw [flatL_nil];exact HO.out.lower Zo,by simp [OkL],by simp,by rw [flatL_nil];intro q hq;cases hq⟩⟩,Zh ⟨hD2b.out,hO2b.out⟩⟩
   case round=>
    obtain ⟨k,rfl,hk1,hk2,⟨A,n,c,rfl,hn,hST⟩,hDD⟩:=hrel;obtain ⟨us,hO,hok,hul,hge⟩:=hST.out;have hDr:=hDD.out.1;have hOr:=hDD.out.2;have HOK:=Zh hok;have HGE:=Zh hge;have HUL:=Zh hul;have HO6:=Zh hO;have hsr:=hOr.size;clear hST hok hge hul hO;by_cases hlt:k < 2
    .have hki:(k:Int) < 2:=by omega
     go_wp2_with fail
     (with_reducible refine (HI.out Zo ((d':Int)+1) Zo hDr).mono ?_);rintro e w3 ⟨A3,n3,c3,u,rfl,hO3,hok3,hge3,hn3,hD3,hOn3⟩;have HR3:=Zh hO3.ri;have HO7:=Zh (HO6.out.only hOn3 hgl);have hs3:=hOn3.size;have hO03:=hOr.trans hOn3;have hn15:n3≤15:=by simp at hn3;omega
     have hn31:n≤31:=by
      have h1:(k - y') * bdT d'≤2 * 15:=Nat.mul_le_mul Zo hb15;omega
     have hcp:=HO7.out.cap;clear hO3;go_wp2_with (at_builtin;go_loud (refine wpList_append_ints rfl (.tmp 33) (.tmp 38) 27 rfl i0 Tryz.underlying27 hii hiz his hib (D:=w.heap.size) rfl HO7.out rfl HR3.out Zo Zo hcp.1 ?_))
     intro A4 c4 w4 hO4 hg4 hat4;have HO4:=Zh hO4;have hob:=OwI.ob2 HO7.out;have HD4:=Zh (hD3.grown hg4 (fun b hb=>by have:=(hob b hb).1;omega));have HON4:=Zh (hO03.grown hg4 (fun b hb=>(hob b hb).1));have HN:=Zh (show OwI w4 w.heap.size A4 (n+n3) c4 ((y':Int) :: flatL (us++[u]))∧OkL [2,1,0] (us++[u])∧(us++[u]).length=k+1 - y'∧∀ q∈flatL (us++[u]),-vars≤q from by
      rw [flatL_append,flatL_cons,flatL_nil,List.append_nil];refine ⟨by simpa using HO4.out,OkL_iff.2 fun a ha=>?_,by rw [List.length_append,HUL.out];simp;omega,fun q hq=>?_⟩
      .rcases List.mem_append.1 ha with ha | ha
       .exact OkL_iff.1 HOK.out a ha
       .rw [List.mem_singleton.1 ha];exact hok3
      .rcases List.mem_append.1 hq with hq | hq
       .exact HGE.out q hq
       .exact hge3 q hq)
     have hnn:n+n3≤1+(k+1 - y') * bdT d':=by
      have h1:n3≤bdT d':=by simpa using hn3
      rw [show k+1 - y'=(k - y')+1 by omega,Nat.add_mul,Nat.one_mul];omega
     clear hO4 hg4 hat4 hob;go_wp2;go_roundw
     case rel=>exact ⟨k+1,by go_num,Zo,Zo,⟨_,_,_,rfl,hnn,Zh ⟨_,HN.out⟩⟩,Zh ⟨HD4.out,HON4.out⟩⟩
     case measure=>exact mq50
    .have hk22:k=2:=by omega
     subst hk22;go_wp2;go_ret;refine ⟨_,_,_,.node (y':Int) us,rfl,?_,?_,?_,?_,hDr,hOr⟩
     .rw [flat_node];exact HO6.out
     .rw [Ok_node,HUL.out];exact ⟨arI3 Zo,HOK.out⟩
     .rw [flat_node];intro q hq;rcases List.mem_cons.1 hq with rfl | hq
      .omega
      .exact HGE.out q hq
     .have h1:(2 - y') * bdT d'≤2 * bdT d':=Nat.mul_le_mul_right _ Zo;simp only [bdT];omega
theorem c_w9Term {g:Nat} {vars:Int} (hv:0≤vars) (hv2:vars≤10):∀ (d:Nat),d≤3→∀ (z:Int) {w:World},z=(d:Int)+1→Dice w g→Calls Tryz.prog 43 #[.pointer (some ⟨g,0,none⟩),.int .i64 z,.int .i64 vars] w (NewTm w g d vars)
 | 0,hd,z,w,hz,h0=>c_w9Term_step hv hv2 hd hz h0 (fun h=>absurd rfl h)
 | d+1,hd,z,w,hz,h0=>c_w9Term_step hv hv2 hd hz h0 (fun _ z w hz hD=>c_w9Term hv hv2 d Zo z Zo hD)
end Go.Proofs.YtiblbnkpjmmjaaaGreat
namespace Go.Proofs.YtiblbnkpjmmjaaaGreat
theorem arI_var {ar:List Int} {x:Int} (h:x < 0):arI ar x=some 0:=by unfold arI;rw [if_pos h]
inductive At (R:Tm→Tm→Prop):Nat→Tm→Tm→Prop
 | here {u v:Tm}:R u v→At R 0 u v
 | arg {x:Int} {as1 bs:List Tm} {a b:Tm} {p:Nat}:At R p a b→At R (1+(flatL as1).length+p) (.node x (as1++a :: bs)) (.node x (as1++b :: bs))
theorem termP_flat {ar:List Int} {u:Tm} (hs:SigP ar) (hu:u.Ok ar) (hl:u.flat.length≤60) (hv:∀ x∈u.flat,-24≤x):TermP ar u.flat:=by
 refine ⟨hs,⟨flat_pos u,hl⟩,hv,?_⟩;have:=scan_flat u hu [] 0;rw [List.append_nil,scan_zero] at this;rw [this];simp
open Go.RowKit
theorem ownsRow_heap {w w':World} {B:Nat} {T:TypeId} {sz n:Nat} {v:Value} {vs:List Value} (h:w.ownsRow B T sz v n vs) (hk:∀ b,v.ownBlock=some b→w'.heap[b]?=w.heap[b]?):w'.ownsRow B T sz v n vs:=by
 refine ⟨h.1,?_⟩;rcases h.2 with h2 | ⟨g,cap,cur,hv,hg,hh,r⟩
 .exact .inl h2
 .exact .inr ⟨g,cap,cur,hv,hg,by rw [hk g (by rw [hv];rfl)];exact hh,r⟩
theorem ownsRow_at {w:World} {B:Nat} {T:TypeId} {sz n b:Nat} {v:Value} {vs:List Value} (h:w.ownsRow B T sz v n vs) (hb:v.ownBlock=some b):B≤b∧b < w.heap.size∧∃ cur,w.heap[b]?=some (.cells cur T (0,0)):=by
 rcases h.2 with ⟨h2,_⟩ | ⟨g,cap,cur,hv,hg,hh,r⟩
 .rw [h2] at hb;cases hb
 .rw [hv] at hb;cases hb;exact ⟨hg,(Array.getElem?_eq_some_iff.1 hh).1,cur,hh⟩
theorem OwI.blk {w:World} {B n c:Nat} {A:Option Addr} {xs:List Int} (h:OwI w B A n c xs):A=none∨∃ b cur,A=some ⟨b,0,none⟩∧B≤b∧w.heap[b]?=some (.cells cur 2 (0,0)):=by
 rcases h.2.2 with ⟨hv,_⟩ | ⟨g,cap,cur,hv,hg,hh,r⟩
 .cases hv;exact .inl rfl
 .cases hv;exact .inr ⟨g,cur,rfl,hg,hh⟩
structure RowBox (T TB:TypeId) (sz:Nat) (bcs:Value→Array Value) (rcs:Array Value) (w0 w:World) (g p r:Nat) (S:Option Addr) (ns cs0:Nat) (ss:List Int) (A:Option Addr) (n c:Nat) (xss:List (List Int)):Prop where
 bx:w.heap[p]?=some (.cells (bcs (.slice A n c)) TB (0,0))
 row:∃ cs,w.ownsRow w0.heap.size T sz (.slice A n c) n cs∧cs.length=xss.length∧∀ (j:Nat) (xs:List Int),xss[j]?=some xs→∃ A' m' c',cs[j]?=some (.slice A' m' c')∧OwI w w0.heap.size A' m' c' xs
 sg:OwI w w0.heap.size S ns cs0 ss
 di:Dice w g
 on:Only w0 w g
 ge:w0.heap.size≤p
 gl:g < w0.heap.size
 rb:w.heap[r]?=some (.cells rcs TB (0,0))
 rp:r≠p
 rge:w0.heap.size≤r
section
variable {T TB:TypeId} {sz:Nat} {bcs:Value→Array Value} {rcs:Array Value} {w0 w w':World} {g p r ns cs0:Nat} {S:Option Addr} {ss:List Int} {A:Option Addr} {n c:Nat} {xss:List (List Int)}
theorem RowBox.step (h:RowBox T TB sz bcs rcs w0 w g p r S ns cs0 ss A n c xss) (hD:Dice w' g) (hO:Only w w' g):RowBox T TB sz bcs rcs w0 w' g p r S ns cs0 ss A n c xss:=by
 have hb:∀ b,w0.heap.size≤b→b < w.heap.size→w'.heap[b]?=w.heap[b]?:=fun b h1 h2=>hO.block b h2 (fun e=>by cases e;have:=h.gl;omega);obtain ⟨cs,h1,h2,h3⟩:=h.row;have hpl:=(Array.getElem?_eq_some_iff.1 h.bx).1;have hrl:=(Array.getElem?_eq_some_iff.1 h.rb).1;refine ⟨(hb p h.ge hpl).trans h.bx,⟨cs,ownsRow_heap h1 (fun b e=>?_),h2,fun j xs hx=>?_⟩,?_,hD,h.on.trans hO,h.ge,h.gl,(hb r h.rge hrl).trans h.rb,h.rp,h.rge⟩
 .obtain ⟨k1,k2,_⟩:=ownsRow_at h1 e;exact hb b k1 k2
 .obtain ⟨A',m',c',e1,e2⟩:=h3 j xs hx;exact ⟨A',m',c',e1,e2.heap fun b e=>by have:=e2.bd b 0 none e;exact hb b this.1 this.2⟩
 .exact h.sg.heap fun b e=>by have:=h.sg.bd b 0 none e;exact hb b this.1 this.2
theorem RowBox.ext (h:RowBox T TB sz bcs rcs w0 w g p r S ns cs0 ss A n c xss) (k:Ext w w'):RowBox T TB sz bcs rcs w0 w' g p r S ns cs0 ss A n c xss:=h.step (h.di.ext k) (Only.of_ext k g)
theorem RowBox.lt (h:RowBox T TB sz bcs rcs w0 w g p r S ns cs0 ss A n c xss):p < w.heap.size:=(Array.getElem?_eq_some_iff.1 h.bx).1
theorem RowBox.push {wx:World} {A2:Option Addr} {c2 k q:Nat} {cs new:List Value} {yss:List (List Int)} {o:Obj} (h:RowBox T TB sz bcs rcs w0 w g p r S ns cs0 ss A n c xss)
 (hT1:T≠2) (hT2:TB≠T) (hT3:TB≠2) (hset:∀ v v',(bcs v).setIfInBounds q v'=bcs v')
 (hrow:w.ownsRow w0.heap.size T sz (.slice A n c) n cs) (hcl:cs.length=xss.length) (hel:∀ (j:Nat) (xs:List Int),xss[j]?=some xs→∃ A' m' c',cs[j]?=some (.slice A' m' c')∧OwI w w0.heap.size A' m' c' xs)
 (hnl:new.length=yss.length) (hnew:∀ (j:Nat) (xs:List Int),yss[j]?=some xs→∃ A' m' c',new[j]?=some (.slice A' m' c')∧OwI w w0.heap.size A' m' c' xs)
 (hown:wx.ownsRow w0.heap.size T sz (.slice A2 k c2) k (cs++new)) (hg:(w.alloc o).grownBy wx (Value.slice A n c).ownBlock) :
 RowBox T TB sz bcs rcs w0 (wx.setCell ⟨p,q,none⟩ (.slice A2 k c2)) g p r S ns cs0 ss A2 k c2 (xss++yss):=by
 have hpl:=h.lt;have hrl:=(Array.getElem?_eq_some_iff.1 h.rb).1;have hold:∀ b,b < w.heap.size→(Value.slice A n c).ownBlock≠some b→wx.heap[b]?=w.heap[b]?:=fun b h1 h2=>
  (hg.block b (by simp;omega) (fun e=>h2 e.symm)).trans (((Ext.refl w).alloc o).block b h1)
 have hrowt:∀ b,(Value.slice A n c).ownBlock=some b→w0.heap.size≤b∧∃ cur,w.heap[b]?=some (.cells cur T (0,0)):=fun b e=>by
  obtain ⟨k1,_,k2⟩:=ownsRow_at hrow e;exact ⟨k1,k2⟩
 have hpne:(Value.slice A n c).ownBlock≠some p:=fun e=>by
  obtain ⟨_,cur,k2⟩:=hrowt p e;rw [h.bx] at k2;cases k2;exact hT2 rfl
 have hrne:(Value.slice A n c).ownBlock≠some r:=fun e=>by
  obtain ⟨_,cur,k2⟩:=hrowt r e;rw [h.rb] at k2;cases k2;exact hT2 rfl
 have hpx:wx.heap[p]?=some (.cells (bcs (.slice A n c)) TB (0,0)):=(hold p hpl hpne).trans h.bx;have hrx:wx.heap[r]?=some (.cells rcs TB (0,0)):=(hold r hrl hrne).trans h.rb;have hkeep:∀ {A':Option Addr} {m' c':Nat} {xs:List Int},OwI w w0.heap.size A' m' c' xs→OwI (wx.setCell ⟨p,q,none⟩ (.slice A2 k c2)) w0.heap.size A' m' c' xs:=fun {A' m' c' xs} hO=>by
  refine hO.heap fun b e=>?_;rcases hO.blk with e0 | ⟨b',cur,e0,_,hb⟩
  .rw [e0] at e;cases e
  .rw [e0] at e;cases e;have hne:(Value.slice A n c).ownBlock≠some b:=fun e2=>by
    obtain ⟨_,cur2,k2⟩:=hrowt b e2;rw [hb] at k2;cases k2;exact hT1 rfl
   have hbp:b≠p:=fun e2=>by subst e2;rw [h.bx] at hb;cases hb;exact hT3 rfl
   rw [Below.heap_setCell _ _ _ _ hbp];exact hold b (Array.getElem?_eq_some_iff.1 hb).1 hne
 refine ⟨?_,⟨cs++new,ownsRow_heap hown (fun b e=>?_),by simp [hcl,hnl],fun j xs hx=>?_⟩,hkeep h.sg,?_,?_,h.ge,h.gl,?_,h.rp,h.rge⟩
 .simp [World.setCell,Array.getElem?_modify,hpx,hset]
 .obtain ⟨_,_,cur,k2⟩:=ownsRow_at hown e;refine Below.heap_setCell _ _ _ _ (fun e2=>?_);have e2':b=p:=e2;subst e2';rw [hpx] at k2;cases k2;exact hT2 rfl
 .rcases Nat.lt_or_ge j xss.length with hj | hj
  .rw [List.getElem?_append_left hj] at hx;obtain ⟨A',m',c',e1,e2⟩:=hel j xs hx;exact ⟨A',m',c',by rw [List.getElem?_append_left Zo];exact e1,hkeep e2⟩
  .rw [List.getElem?_append_right hj] at hx;obtain ⟨A',m',c',e1,e2⟩:=hnew _ xs hx;exact ⟨A',m',c',by rw [List.getElem?_append_right Zo,hcl];exact e1,hkeep e2⟩
 .refine (Dice.grown (h.di.ext ((Ext.refl w).alloc o)) hg fun b e=>?_).below (Below.setCell (Below.refl _ _) (by show g+1≤p;have:=h.ge;have:=h.gl;omega) _);have:=(hrowt b e).1;have:=h.gl;omega
 .refine (Only.grown (h.on.trans (Only.of_ext ((Ext.refl w).alloc o) g)) hg fun b e=>(hrowt b e).1).grown (Only.setCell _ _ _ _) (fun b e=>by cases e;exact h.ge)
 .rw [Below.heap_setCell _ _ _ _ h.rp];exact hrx
end
theorem sigR3:SigP [2,1,(0:Int)]:=sigOk_iff.1 (by first | rfl | decide | simp [sigOk,SigP])
theorem tm3 {u:Tm} {d:Nat} {vars:Int} (hv:vars≤24) (hd:d≤3) (hu:u.Ok [2,1,0]) (hn:u.flat.length≤bdT d) (hx:∀ x∈u.flat,-vars≤x):TermP [2,1,0] u.flat:=
 termP_flat sigR3 hu (by have:=bdT_le hd;omega) (fun x h=>by have:=hx x h;omega)

