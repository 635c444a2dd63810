/- -/
import Derived.Test.YtiblbnkpjmmjaaaGreatQ16
set_option maxRecDepth 100000
set_option maxHeartbeats 16000000
set_option linter.all false
namespace Go.Proofs.YtiblbnkpjmmjaaaGreat
open Go.Conc
def Hx (v v':World):Prop:=v.heap.size≤v'.heap.size∧∀ k,k < v.heap.size→v'.heap[k]?=v.heap[k]?
theorem Hx.refl (v:World):Hx v v:=⟨Nat.le_refl _,fun _ _=>rfl⟩
theorem Hx.trans {u v w:World} (h:Hx u v) (k:Hx v w):Hx u w:=⟨Nat.le_trans h.1 k.1,fun i hi=>(k.2 i (Nat.lt_of_lt_of_le hi h.1)).trans (h.2 i hi)⟩
theorem Hx.ext {v w:World} (h:Ext v w):Hx v w:=⟨h.size,fun k hk=>h.block k hk⟩
theorem Hx.to {v w:World} (h:Hx v w):Ext { w with heap:=v.heap } w:=⟨rfl,rfl,rfl,h.1,fun k hk=>h.2 k hk⟩
section
variable {P:Program} {L:Lim} {A:An} {b:Frame} {rc:List Frame} {k k':List Item} {Φ Ψ:Act→World→Prop} {β γ:Bl} {ag a:Act} {ops:Array Oper} {i:Nat} {rest:List Nat} {o:Oper} {Post:Value→World→Prop} {kk:Nat}
abbrev ScrS (P:Program) (Post:Value→World→Prop) (kk:Nat):Set_→Goroutine→World→Prop:=fun O g w=>AtEnd_ P Post g w∨AtMk_ P (Script_ P Post kk) O g w
theorem Wk.mkChan (hb:b.kind≠.early) (ho:ops[i]?=some o) {t:TypeId} (hop:o.op=.makeChan t (.const (.int .i64 0))) (hg:o.guard=none) {d:Option Tmp} (hd:o.dst=d)
 (hr:∀ (a:Act) (w:World),(execOp a.eval o).run P w=.ok (.value (.chan (some w.heap.size))) { w with heap:=w.heap.push (.chan 0 #[] false 0 0 false) }∧(execOp a.eval o).events P w #[]=#[])
 (hn:∀ c,Wk P L true (AtGo_ P c (Script_ P Post kk)) A b rc (.inRegion ops rest :: k) (fun a v=>∃ a0,Φ a0 v∧a=a0.put d (pz L.bad (.chan (some c))))):Wk P L true (ScrS P Post kk) A b rc (.inRegion ops (i :: rest) :: k) Φ:=by
 subst hd;intro γ ag a v w O hp k2 k3 k4 k5 k6 k7;have hwa:Region.wanted o (yielded ops a.tmps)=true:=by simp [Region.wanted,hg]
 refine .stop fun w1 hr1=>.inr ⟨rfl,G (b.at (a.put o.dst (.chan (some w1.heap.size))) (.inRegion ops rest :: k)) rc,?_,fun x=>O x∧x < w1.heap.size,fun x hx=>hx.1,?_⟩
 .rw [stepG_value ho hwa hb (hr a w1).1,listed_none (hr a w1).2]
 .have hW:=k5.ry k6 hr1;have hA:=k7.rely hr1;have hRy:Ry (fun x=>O x∧x < w1.heap.size) w1 { w1 with heap:=w1.heap.push (.chan 0 #[] false 0 0 false) }:=⟨rfl,rfl,rfl,by simp,fun x hx=>by
   show (w1.heap.push _)[x]?=_;rw [Array.getElem?_push,if_neg (by omega)]⟩
  have hn':Named (fun x=>O x∧x < w1.heap.size) γ:=fun q x e=>⟨k6 q x e,by obtain ⟨_,_,_,h,_⟩:=hW.blk q x e;exact lt_of_heap h⟩;have hA':Acc A.O A.β A.v A.w (fun x=>O x∧x < w1.heap.size) γ v w1:=⟨hA.le,hA.new,hA.gv,hA.gw,fun x hx hl=>⟨hA.up x hx hl,Nat.lt_of_lt_of_le hl hA.gw⟩,hA.keep,hA.os,hA.output,hA.tape⟩;exact hn w1.heap.size γ (ag.put o.dst (pz L.bad (.chan (some w1.heap.size)))) _ v _ _ ⟨ag,hp,rfl⟩ (by rw [put_defers,k2]) (by rw [put_defers,k3]) (k4.put _ (.poison ⟨by simp,by simp,by simp⟩)) (hW.ry hn' hRy) hn' (hA'.rely hRy)
theorem Wk.go {ι:Type} {V:ι→Value→Nat→World→Prop} {Next:Set_→Goroutine→World→Prop} {c:Nat} {z:Value} {rs:List ι} {f:FuncId} {ars:Array Operand} {ats:Array TypeId} (hb:b.kind≠.early) (hV:VOk V) (ho:ops[i]?=some o) (hop:o.op=.go { callee:=.value (.func f),args:=ars,argTypes:=ats }) (hg:o.guard=none) (hd:o.dst=none)
 {vals:Array Value} (hargs:∀ γ (ag a:Act) v,Φ ag v→VsRel L γ ag.tmps a.tmps→ars.map a.eval=vals) (hchild:∀ w,Co P false (SStop P c V rs) noSet (born P (dcall f vals)) w)
 (hn:Wk P L true (MStop P c z V Next rs) A b rc (.inRegion ops rest :: k) Φ):Wk P L true (AtGo_ P c Next) A b rc (.inRegion ops (i :: rest) :: k) Φ:=by
 intro γ ag a v w O hp k2 k3 k4 k5 k6 k7;have hwa:Region.wanted o (yielded ops a.tmps)=true:=by simp [Region.wanted,hg]
 refine .stop fun w1 hr1=>⟨rfl,G (b.at (a.put none undef) (.inRegion ops rest :: k)) rc,_,ι,V,rs,z,hV,?_,?_,hchild w1⟩
 .rw [stepG_spawn (d:=dcall f (ars.map a.eval)) (w':=w1) (f:=.func f) (c:=#[]) ho hwa hb (run_go hop w1).1 rfl,listed_none (run_go hop w1).2,hd,hargs γ ag a v hp k4]
 .exact hn γ ag _ v w1 O hp k2 (by rw [put_defers,k3]) k4 (k5.ry k6 hr1) k6 (k7.rely hr1)
section
variable {c:Nat} {z:Value} {t:TypeId} {x:Operand} {d:Option Tmp} {Next:Set_→Goroutine→World→Prop}
theorem recv_at (hb:b.kind≠.early) (ho:ops[i]?=some o) (hg:o.guard=none) (hr:∀ (a:Act) (w:World),a.eval x=.chan (some c)→(execOp a.eval o).run P w=.ok (.comm #[rcase c z] true (.recv true)) w∧(execOp a.eval o).events P w #[]=#[])
 (hx:a.eval x=.chan (some c)) (w:World):RecvAt P c z (G (b.at a (.inRegion ops (i :: rest) :: k)) rc) w:=by
 have hwa:Region.wanted o (yielded ops a.tmps)=true:=by simp [Region.wanted,hg]
 refine ⟨rfl,?_⟩;rw [stepG_comm ho hwa hb (hr a w hx).1,listed_none (hr a w hx).2]
 rfl
theorem Wk.recvNil {StA:Set_→Goroutine→World→Prop} {V:List Int→Value→Nat→World→Prop} (hb:b.kind≠.early) (ho:ops[i]?=some o) (hg:o.guard=none) (hd:o.dst=d) (hr:∀ (a:Act) (w:World),a.eval x=.chan (some c)→(execOp a.eval o).run P w=.ok (.comm #[rcase c (.slice none 0 0)] true (.recv true)) w∧(execOp a.eval o).events P w #[]=#[]) (hxk:XOK L x)
 (hx:∀ a v,Φ a v→a.eval x=pz L.bad (.chan (some c)))
 (hn:Wk P L true StA A b rc (.inRegion ops rest :: k) (fun a v=>∃ a0,Φ a0 v∧a=a0.put d (.tuple #[.slice none 0 0,.bool false]))) :
 Wk P L true (MStop P c (.slice none 0 0) V (Co P true StA) []) A b rc (.inRegion ops (i :: rest) :: k) Φ:=by
 subst hd;intro γ ag a v w O hp k2 k3 k4 k5 k6 k7;have hxa:a.eval x=.chan (some c):=pz_inv (by have:=act_eval k4 hxk;rwa [hx _ _ hp] at this);refine .stop fun w1 hr1=>⟨recv_at hb ho hg hr hxa w1,fun w2 hr2=>?_⟩;rw [core_G,served_G,ho];have hr12:=hr1.trans hr2;refine hn γ (ag.put o.dst (.tuple #[.slice none 0 0,.bool false])) _ v w2 O ⟨ag,hp,rfl⟩ (by rw [put_defers,k2]) (by rw [put_defers,k3]) (k4.put _ ?_) (k5.ry k6 hr12) k6 (k7.rely hr12);exact .tuple rfl fun i u y h1 h2=>by
  rcases i with _ | _ | i
  .simp at h1 h2;subst h1;subst h2;exact .slice _ _ trivial
  .simp at h1 h2;subst h1;subst h2;exact .bool _
  .simp at h1
theorem Wk.recvCons {us:List Int} {rs:List (List Int)} (hb:b.kind≠.early) (hLg:L.g=0) (ho:ops[i]?=some o) (hg:o.guard=none) (hd:o.dst=d) (hr:∀ (a:Act) (w:World),a.eval x=.chan (some c)→(execOp a.eval o).run P w=.ok (.comm #[rcase c z] true (.recv true)) w∧(execOp a.eval o).events P w #[]=#[]) (hxk:XOK L x)
 (hx:∀ a v,Φ a v→a.eval x=pz L.bad (.chan (some c)))
 (hn:Wk P L true (MStop P c z VI Next rs) A b rc (.inRegion ops rest :: k) (fun a v=>∃ a0 v0 cp,Φ a0 v0∧Hx v0 v∧OwI v v0.heap.size (some ⟨v0.heap.size,0,none⟩) us.length cp us∧a=a0.put d (.tuple #[.slice (some ⟨v0.heap.size,0,none⟩) us.length cp,.bool true]))) :
 Wk P L true (MStop P c z VI Next (us :: rs)) A b rc (.inRegion ops (i :: rest) :: k) Φ:=by
 subst hd;intro γ ag a v w O hp k2 k3 k4 k5 k6 k7;have hxa:a.eval x=.chan (some c):=pz_inv (by have:=act_eval k4 hxk;rwa [hx _ _ hp] at this);refine .stop fun w1 hr1=>⟨recv_at hb ho hg hr hxa w1,fun w2 y bk hr2 hbk hV=>?_⟩;rw [core_G,served_G,ho];obtain ⟨cp,rfl,hu,hO⟩:=hV;obtain ⟨g',cur,e,_,hg2,hcn,_,hl,hat,hmk⟩:=hO.blkC hu;cases e;have hr12:=hr1.trans hr2;have hW:=k5.ry k6 hr12;have hA:=k7.rely hr12;obtain ⟨cs,hc1,hc2⟩:=exists_wish (L:=L) (γ:=γ.put v.heap.size bk) cur cur
 let v1:World:={ v with heap:=v.heap.push (.cells cs 2) }
 have hH:Hx v v1:=⟨by simp [v1],fun q hq=>by
  show (v.heap.push _)[q]?=_;rw [Array.getElem?_push,if_neg (by omega)]⟩
 have hkk:v1.heap[v.heap.size]?=some (.cells cs 2):=by simp [v1]
 have hlt:∀ q z,γ q=some z→q < v.heap.size:=fun q z e=>by obtain ⟨_,_,h,_⟩:=hW.blk q z e;exact lt_of_heap h
 have hle:Bl.Le γ (γ.put v.heap.size bk):=fun q z e=>by
  have:=hlt q z e;unfold Bl.put;rw [if_neg (by omega)];exact e
 have hput:∀ q z,γ.put v.heap.size bk q=some z→(q=v.heap.size∧z=bk)∨γ q=some z:=fun q z e=>by
  unfold Bl.put at e;split at e
  .cases e;exact .inl ⟨by assumption,rfl⟩
  .exact .inr e
 have hkb:γ.put v.heap.size bk v.heap.size=some bk:=by simp [Bl.put]
 have hnb:∀ q,γ q≠some bk:=fun q e=>hbk (k6 q bk e);have hOw:OwI v1 v.heap.size (some ⟨v.heap.size,0,none⟩) us.length cp us:=hmk v1 cs v.heap.size v.heap.size (Nat.le_refl _) hkk hc1.1 fun j y hj=>hc2 j _ _ (hat j y hj) (hat j y hj) (.int _ _);have hW1:WRel L (γ.put v.heap.size bk) v1 w2:=by
  refine ⟨fun q z e=>?_,fun q l z e1 e2=>?_,by rw [hLg];exact Nat.zero_le _,by rw [hLg];exact Nat.zero_le _⟩
  .rcases hput q z e with ⟨rfl,rfl⟩ | e
   .exact ⟨_,_,hkk,hg2,.cells _ _ hc1⟩
   .obtain ⟨o1,p1,h1,h2,h3⟩:=hW.blk q z e;exact ⟨o1,p1,by rw [hH.2 q (hlt q z e)];exact h1,h2,h3.mono hle⟩
  .rcases hput q z e1 with ⟨h1,h2⟩ | f1<;>rcases hput l _ e2 with ⟨h3,h4⟩ | f2
   .rw [h1,h3]
   .exact absurd (h2 ▸ f2) (hnb l)
   .exact absurd (h4 ▸ f1) (hnb q)
   .exact hW.inj q l z f1 f2
 have hn1:Named (fun y=>O y∨y=bk) (γ.put v.heap.size bk):=fun q z e=>(hput q z e).elim (fun h=>.inr h.2) fun h=>.inl (k6 q z h);have hA1:Acc A.O A.β A.v A.w (fun y=>O y∨y=bk) (γ.put v.heap.size bk) v1 w2:=⟨hA.le.trans hle,fun q z e=>(hput q z e).elim (fun h=>.inr ⟨by
  rcases Nat.lt_or_ge z A.w.heap.size with hl | hl
  .exact .inl fun hx=>hbk (by rw [← h.2];exact hA.up z hx hl)
  .exact .inr hl,by rw [h.1];exact hA.gv⟩) (hA.new q z),Nat.le_trans hA.gv hH.1,hA.gw,fun q hq hl=>.inl (hA.up q hq hl),hA.keep,hA.os,hA.output,hA.tape⟩
 refine hn _ (ag.put o.dst (.tuple #[.slice (some ⟨v.heap.size,0,none⟩) us.length cp,.bool true])) _ v1 w2 _ ⟨ag,v,cp,hp,hH,hOw,rfl⟩ (by rw [put_defers,k2]) (by rw [put_defers,k3]) ((k4.mono hle).put _ ?_) hW1 hn1 hA1;exact .tuple rfl fun i u y h1 h2=>by
  rcases i with _ | _ | i
  .simp at h1 h2;subst h1;subst h2;exact .slice _ _ ⟨hkb,rfl,rfl,by rw [hLg];exact Nat.zero_le _,by rw [hLg];exact Nat.zero_le _⟩
  .simp at h1 h2;subst h1;subst h2;exact .bool _
  .simp at h1
end
end
end Go.Proofs.YtiblbnkpjmmjaaaGreat
namespace Go.Proofs.YtiblbnkpjmmjaaaGreat
mutual
theorem sub_ex {ar:List Int}:∀ (u:Tm),u.Ok ar→∀ at_,at_ < u.flat.length→∃ (v:Tm) (rest:List Int),v.Ok ar∧u.flat.drop at_=v.flat++rest
 | .node x us,hu,0,_=>⟨.node x us,[],hu,by simp⟩
 | .node x us,hu,n+1,h=>by
  rw [flat_node,List.length_cons] at h;obtain ⟨v,rest,h1,h2⟩:=subL_ex us (Ok_node.1 hu).2 n (by omega);exact ⟨v,rest,h1,by rw [flat_node,List.drop_succ_cons];exact h2⟩
theorem subL_ex {ar:List Int}:∀ (us:List Tm),OkL ar us→∀ at_,at_ < (flatL us).length→∃ (v:Tm) (rest:List Int),v.Ok ar∧(flatL us).drop at_=v.flat++rest
 | [],_,at_,h=>by rw [show flatL []=[] by rfl] at h;simp at h
 | a :: us,hu,at_,h=>by
  obtain ⟨k1,k2⟩:=OkL_cons.1 hu;rw [flatL_cons,List.length_append] at h;rw [flatL_cons];by_cases h1:at_ < a.flat.length
  .obtain ⟨v,rest,h2,h3⟩:=sub_ex a k1 at_ h1;exact ⟨v,rest++flatL us,h2,by rw [List.drop_append_of_le_length (by omega),h3,List.append_assoc]⟩
  .obtain ⟨v,rest,h2,h3⟩:=subL_ex us k2 (at_ - a.flat.length) (by omega);exact ⟨v,rest,h2,by rw [List.drop_append,List.drop_of_length_le (by omega),List.nil_append];exact h3⟩
end
noncomputable def subT (ar t:List Int) (p:Nat):Tm:=@Classical.epsilon Tm ⟨.node 0 []⟩ fun v=>v.Ok ar∧∃ rest,t.drop p=v.flat++rest
theorem subT_ok {ar t:List Int} {p:Nat} (h:TermP ar t) (hp:p < t.length):(subT ar t p).Ok ar∧∃ rest,t.drop p=(subT ar t p).flat++rest:=by
 obtain ⟨k1,k2⟩:=tmOf_ok h;obtain ⟨v,rest,h1,h2⟩:=sub_ex (tmOf ar t) k1 p (by rw [k2];exact hp);rw [k2] at h2;exact Classical.epsilon_spec (p:=fun v:Tm=>v.Ok ar∧∃ rest,t.drop p=v.flat++rest) ⟨v,h1,rest,h2⟩
def Has (ar t u:List Int):Prop:=∃ p,1≤p∧p < t.length∧(subT ar t p).flat=u
noncomputable def has (ar t u:List Int):Bool:=@decide (Has ar t u) (Classical.propDecidable _)
open Classical in
/-- Of arguments the first unlike ones. -/
noncomputable def lexG (W:Tm→Tm→Nat):List Tm→List Tm→Bool
 | a :: ts,b :: ss=>if a=b then lexG W ts ss else decide (0 < W a b)
 | _,_=>false
open Classical in
noncomputable def rmv (b:Tm):List Tm→List Tm
 | []=>[]
 | a :: as1=>if a=b then as1 else a :: rmv b as1
open Classical in
/-- What stays of both bags where what is in both is taken out. -/
noncomputable def bagTwo:List Tm→List Tm→List Tm×List Tm
 | left,[]=>(left,[])
 | left,b :: ss=>if b∈left then bagTwo (rmv b left) ss else ((bagTwo left ss).1,b :: (bagTwo left ss).2)
def anyG (W:Tm→Tm→Nat) (left:List Tm) (b:Tm):Bool:=left.any fun a=>decide (0 < W a b)
def allG (W:Tm→Tm→Nat) (left more:List Tm):Bool:=more.all fun b=>anyG W left b
noncomputable def bagG (W:Tm→Tm→Nat) (ts ss:List Tm):Bool:=allG W (bagTwo ts ss).1 (bagTwo ts ss).2 && decide (0 < (bagTwo ts ss).1.length)
def overG (W:Tm→Tm→Nat) (t:Tm) (ss:List Tm):Bool:=ss.all fun b=>decide (0 < W t b)
open Classical in
noncomputable def argG (W:Tm→Tm→Nat) (ts:List Tm) (s:Tm):Bool:=ts.any fun a=>decide (a=s) || decide (0 < W a s)
def Tm.hd:Tm→Int
 | .node x _=>x
def Tm.as:Tm→List Tm
 | .node _ as1=>as1
noncomputable def lpoB (rk:Int→Int) (lex:Bool) (W:Tm→Tm→Nat) (t s:Tm):Nat:=
 if t.hd < 0 then 0 else if argG W t.as s=true then 1 else if s.hd < 0 then 0
 else if t.hd=s.hd then (if (if lex=true then overG W t s.as && lexG W t.as s.as else bagG W t.as s.as)=true then 3 else 0)
 else if rk s.hd < rk t.hd∧overG W t s.as=true then 2 else 0
noncomputable def lpoN (rk:Int→Int) (lex:Bool):Nat→Tm→Tm→Nat
 | 0,_,_=>0
 | n+1,t,s=>lpoB rk lex (lpoN rk lex n) t s
def Tm.sz (t:Tm):Nat:=t.flat.length
theorem sz_arg {t a:Tm} (h:a∈t.as):a.sz < t.sz:=by
 cases t with
 | node x as1=>
  unfold Tm.sz;rw [flat_node,List.length_cons];have:=mem_flatL_len (show a∈as1 from h);omega
theorem any_congr {α:Type} {l:List α} {f g:α→Bool} (h:∀ a∈l,f a=g a):l.any f=l.any g:=by
 induction l with
 | nil=>rfl
 | cons a l ih=>rw [List.any_cons,List.any_cons,h a (List.mem_cons_self),ih fun b hb=>h b (List.mem_cons_of_mem _ hb)]
theorem all_congr {α:Type} {l:List α} {f g:α→Bool} (h:∀ a∈l,f a=g a):l.all f=l.all g:=by
 induction l with
 | nil=>rfl
 | cons a l ih=>rw [List.all_cons,List.all_cons,h a (List.mem_cons_self),ih fun b hb=>h b (List.mem_cons_of_mem _ hb)]
theorem lexG_congr {W W':Tm→Tm→Nat}:∀ {ts ss:List Tm},(∀ a∈ts,∀ b∈ss,W a b=W' a b)→lexG W ts ss=lexG W' ts ss
 | [],_,_=>by simp [lexG]
 | _ :: _,[],_=>by simp [lexG]
 | a :: ts,b :: ss,h=>by
  unfold lexG;rw [h a List.mem_cons_self b List.mem_cons_self,lexG_congr fun x hx y hy=>h x (List.mem_cons_of_mem _ hx) y (List.mem_cons_of_mem _ hy)]
theorem rmv_sub {b a:Tm}:∀ {l:List Tm},a∈rmv b l→a∈l
 | [],h=>by simp [rmv] at h
 | c :: l,h=>by
  unfold rmv at h;split at h
  .exact List.mem_cons_of_mem _ h
  .rcases List.mem_cons.1 h with rfl | h
   .exact List.mem_cons_self
   .exact List.mem_cons_of_mem _ (rmv_sub h)
theorem bagTwo_sub:∀ {ss left:List Tm},(∀ a∈(bagTwo left ss).1,a∈left)∧∀ b∈(bagTwo left ss).2,b∈ss
 | [],left=>by unfold bagTwo;exact ⟨fun a h=>h,fun b h=>h⟩
 | b :: ss,left=>by
  unfold bagTwo;split
  .obtain ⟨h1,h2⟩:=bagTwo_sub (ss:=ss) (left:=rmv b left);exact ⟨fun a h=>rmv_sub (h1 a h),fun c h=>List.mem_cons_of_mem _ (h2 c h)⟩
  .obtain ⟨h1,h2⟩:=bagTwo_sub (ss:=ss) (left:=left);exact ⟨h1,fun c h=>by
    rcases List.mem_cons.1 h with rfl | h
    .exact List.mem_cons_self
    .exact List.mem_cons_of_mem _ (h2 c h)⟩
theorem bagG_congr {W W':Tm→Tm→Nat} {ts ss:List Tm} (h:∀ a∈ts,∀ b∈ss,W a b=W' a b):bagG W ts ss=bagG W' ts ss:=by
 obtain ⟨h1,h2⟩:=bagTwo_sub (ss:=ss) (left:=ts);unfold bagG allG
 have e:((bagTwo ts ss).2.all fun b=>anyG W (bagTwo ts ss).1 b)=(bagTwo ts ss).2.all fun b=>anyG W' (bagTwo ts ss).1 b:=
  all_congr fun b hb=>any_congr fun a ha=>by rw [h a (h1 a ha) b (h2 b hb)]
 rw [e]
theorem overG_congr {W W':Tm→Tm→Nat} {t:Tm} {ss:List Tm} (h:∀ b∈ss,W t b=W' t b):overG W t ss=overG W' t ss:=
 all_congr fun b hb=>by rw [h b hb]
theorem argG_congr {W W':Tm→Tm→Nat} {s:Tm} {ts:List Tm} (h:∀ a∈ts,W a s=W' a s):argG W ts s=argG W' ts s:=
 any_congr fun a ha=>by rw [h a ha]
theorem lpoB_congr {rk:Int→Int} {lex:Bool} {W W':Tm→Tm→Nat} {t s:Tm} (h:∀ a b,a.sz+b.sz < t.sz+s.sz→W a b=W' a b):lpoB rk lex W t s=lpoB rk lex W' t s:=by
 have h1:argG W t.as s=argG W' t.as s:=argG_congr fun a ha=>h a s (by have:=sz_arg ha;omega);have h2:overG W t s.as=overG W' t s.as:=overG_congr fun b hb=>h t b (by have:=sz_arg hb;omega);have h3:lexG W t.as s.as=lexG W' t.as s.as:=lexG_congr fun a ha b hb=>h a b (by have:=sz_arg ha;have:=sz_arg hb;omega);have h4:bagG W t.as s.as=bagG W' t.as s.as:=bagG_congr fun a ha b hb=>h a b (by have:=sz_arg ha;have:=sz_arg hb;omega);unfold lpoB;rw [h1,h2,h3,h4]
theorem lpoN_eq {rk:Int→Int} {lex:Bool}:∀ {n m:Nat} {t s:Tm},t.sz+s.sz≤n→t.sz+s.sz≤m→lpoN rk lex n t s=lpoN rk lex m t s
 | 0,_,t,s,h,_=>by have:=flat_pos t;unfold Tm.sz at h;omega
 | _+1,0,t,s,_,h=>by have:=flat_pos t;unfold Tm.sz at h;omega
 | n+1,m+1,t,s,h1,h2=>by
  show lpoB rk lex (lpoN rk lex n) t s=lpoB rk lex (lpoN rk lex m) t s;exact lpoB_congr fun a b hab=>lpoN_eq (by omega) (by omega)
noncomputable def lpoW (rk:Int→Int) (lex:Bool) (t s:Tm):Nat:=lpoN rk lex (t.sz+s.sz) t s
theorem lpoW_eq (rk:Int→Int) (lex:Bool) (t s:Tm):lpoW rk lex t s=lpoB rk lex (lpoW rk lex) t s:=by
 have h:lpoW rk lex t s=lpoN rk lex (t.sz+s.sz+1) t s:=lpoN_eq (Nat.le_refl _) (by omega);rw [h];show lpoB rk lex (lpoN rk lex (t.sz+s.sz)) t s=_;exact lpoB_congr fun a b hab=>lpoN_eq (by omega) (Nat.le_refl _)
theorem lpoB_le {rk:Int→Int} {lex:Bool} {W:Tm→Tm→Nat} {t s:Tm}:lpoB rk lex W t s≤3:=by
 unfold lpoB
 repeat' split
 all_goals omega
theorem lpoW_le (rk:Int→Int) (lex:Bool) (t s:Tm):lpoW rk lex t s≤3:=by rw [lpoW_eq];exact lpoB_le
theorem subT_eq {ar t rest:List Int} {p:Nat} {u:Tm} (h:TermP ar t) (hu:u.Ok ar) (hd:t.drop p=u.flat++rest):subT ar t p=u:=by
 have hp:p < t.length:=by
  have h1:=congrArg List.length hd;have h2:=flat_pos u;rw [List.length_drop,List.length_append] at h1;omega
 obtain ⟨h1,rest',h2⟩:=subT_ok h hp;exact (flat_inj _ _ h1 hu _ _ (by rw [← h2,hd])).1
def rkF (rk:List Int) (x:Int):Int:=rk.getD x.toNat 0
noncomputable def lpoA (ar rk:List Int) (lex:Bool) (s t:List Int):Nat:=lpoW (rkF rk) lex (subT ar t 0) (subT ar s 0)
noncomputable def lpoArgs (ar rk s t:List Int):Bool:=(termOk ar s && termOk ar t) && rankOk ar rk
theorem lpoArgs_iff {ar rk s t:List Int}:lpoArgs ar rk s t=true↔(TermP ar s∧TermP ar t)∧SigP ar∧rk.length=ar.length∧rankOk ar rk=true:=by
 unfold lpoArgs;rw [Bool.and_eq_true,Bool.and_eq_true,termOk_iff,termOk_iff];constructor
 .rintro ⟨h1,h2⟩;exact ⟨h1,h1.1.1,(rankOk_iff.1 h2).2.1,h2⟩
 .rintro ⟨h1,_,_,h2⟩;exact ⟨h1,h2⟩
def LpAll (lex:Bool) (s:Sy) (rk:List Int):Prop:=∀ (j:Nat) (r:Ru),s.rs[j]?=some r→lpoA s.ar rk lex r.r r.l≠0
noncomputable def lpAll (lex:Bool) (s:Sy) (rk:List Int):Bool:=@decide (LpAll lex s rk) (Classical.propDecidable _)
theorem lpAll_f {lex:Bool} {s:Sy} {rk:List Int} {j:Nat} {r:Ru} (hr:s.rs[j]?=some r) (h:lpoA s.ar rk lex r.r r.l=0):lpAll lex s rk=false:=by
 simp only [lpAll,decide_eq_false_iff_not];exact fun a=>a j r hr h
theorem lpAll_t {lex:Bool} {s:Sy} {rk:List Int} (h:∀ (j:Nat) (r:Ru),j < s.rs.length→s.rs[j]?=some r→lpoA s.ar rk lex r.r r.l≠0):lpAll lex s rk=true:=by
 simp only [lpAll,decide_eq_true_eq];exact fun j r hr=>h j r (List.getElem?_eq_some_iff.1 hr).1 hr
noncomputable def orientsV (lex:Bool) (s:Sy) (rk:List Int):Bool:=sysOk s && rankOk s.ar rk && lpAll lex s rk
theorem orientsV_sys {lex:Bool} {s:Sy} {rk:List Int} (h:sysOk s=false):orientsV lex s rk=false:=by unfold orientsV;rw [h];rfl
theorem orientsV_rank {lex:Bool} {s:Sy} {rk:List Int} (h:sysOk s=true) (h2:rankOk s.ar rk=false):orientsV lex s rk=false:=by unfold orientsV;rw [h,h2];rfl
theorem orientsV_all {lex:Bool} {s:Sy} {rk:List Int} (h:sysOk s=true) (h2:rankOk s.ar rk=true):orientsV lex s rk=lpAll lex s rk:=by unfold orientsV;rw [h,h2];rfl
theorem lpoArgs_rule {s:Sy} {rk:List Int} {j:Nat} {r:Ru} (hs:SysP s) (hk:rankOk s.ar rk=true) (hr:s.rs[j]?=some r):lpoArgs s.ar rk r.r r.l=true:=by
 have h:=hs.2.2 j r hr;have h2:=rankOk_iff.1 hk;exact lpoArgs_iff.2 ⟨⟨h.2.1,h.1⟩,hs.1,h2.2.1,hk⟩
open Go.RowKit
def RS (w:World) (A:Option Addr) (n:Nat) (xss:List (List Int)):Prop:=
 (xss.length=n∧n≤4194304)∧∀ (j:Nat) (xs:List Int),xss[j]?=some xs→∃ b o v,A=some ⟨b,o,none⟩∧w.cell? ⟨b,o+j,none⟩=some v∧RdIc w v xs
theorem RS.ext {w w':World} {A:Option Addr} {n:Nat} {xss:List (List Int)} (h:RS w A n xss) (k:Ext w w'):RS w' A n xss:=
 ⟨h.1,fun j xs hx=>by
  obtain ⟨b,o,v,e,h1,h2⟩:=h.2 j xs hx;exact ⟨b,o,v,e,Ext.keep k h1,h2.ext k⟩⟩
theorem RS.at_ {w:World} {A:Option Addr} {n j:Nat} {us:List Tm} {a:Tm} (h:RS w A n (us.map Tm.flat)) (ha:us[j]?=some a) :
 ∃ b o A' m' c',A=some ⟨b,o,none⟩∧w.cell? ⟨b,o+j,none⟩=some (.slice A' m' c')∧(m'≤c'∧c'≤9223372036854775807)∧RI w A' m' a.flat:=by
 obtain ⟨b,o,v,e,h1,A',m',c',rfl,h2,h3⟩:=h.2 j a.flat (by rw [List.getElem?_map,ha];rfl);exact ⟨b,o,A',m',c',e,h1,h2,h3⟩
def OwS (w0 w:World) (B:Nat) (A:Option Addr) (n c:Nat) (xss:List (List Int)):Prop:=
 n≤4194304∧∃ vs,w.ownsRow B 27 1 (.slice A n c) n vs∧xss.length=n∧∀ (j:Nat) (v:Value) (xs:List Int),vs[j]?=some v→xss[j]?=some xs→RdIc w0 v xs
section
variable {w0 w w':World} {B:Nat} {A:Option Addr} {n c:Nat} {xss:List (List Int)}
theorem OwS.rs (h:OwS w0 w B A n c xss) (k:Ext w0 w):RS w A n xss:=by
 obtain ⟨hn,vs,ho,hl,hr⟩:=h;refine ⟨⟨hl,hn⟩,fun j xs hx=>?_⟩;have hj:j < n:=by have:=(List.getElem?_eq_some_iff.1 hx).1;omega
 have hvl:vs.length=n:=by have:=ho.1;simpa using this
 obtain ⟨g,cap,hv,_,hlt⟩:=World.ownsRow.form ho (by omega);cases hv;have hc:=World.ownsRow.cellAt ho j (by omega);have hvj:vs[j]?=some (vs[j]'(by omega)):=List.getElem?_eq_getElem (by omega);exact ⟨g,0,_,rfl,by rw [Nat.zero_add,hc,hvj],(hr j _ xs hvj hx).ext k⟩
theorem OwS.ext (h:OwS w0 w B A n c xss) (k:Ext w w'):OwS w0 w' B A n c xss:=by
 obtain ⟨hn,vs,ho,hl,hr⟩:=h;refine ⟨hn,vs,⟨ho.1,?_⟩,hl,hr⟩;rcases ho.2 with h2 | ⟨g,cap,cur,hv,hg,hh,r⟩
 .exact .inl h2
 .exact .inr ⟨g,cap,cur,hv,hg,(k.block g (Array.getElem?_eq_some_iff.1 hh).1).trans hh,r⟩
end
theorem one_slice (A:Option Addr) (n c:Nat):∀ u∈[Value.slice A n c],u.oneCell'=true:=by intro u hu;simp at hu;subst hu;rfl
theorem OwS.step {w0 wx:World} {B:Nat} {g k cap:Nat} {xss:List (List Int)} {v:Value} {xs:List Int} {vs:List Value} (hn:k+1≤4194304) (hl:xss.length=k)
 (hr:∀ (j:Nat) (v:Value) (xs:List Int),vs[j]?=some v→xss[j]?=some xs→RdIc w0 v xs) (hvl:vs.length=k) (hv:RdIc w0 v xs)
 (hown:wx.ownsRow B 27 1 (.slice (some ⟨g,0,none⟩) (k+1) cap) (k+1) (vs++[v])):OwS w0 wx B (some ⟨g,0,none⟩) (k+1) cap (xss++[xs]):=by
 refine ⟨hn,_,hown,by simp [hl],fun j u ys h1 h2=>?_⟩;rcases Nat.lt_or_ge j k with h | h
 .rw [List.getElem?_append_left (by omega)] at h1;rw [List.getElem?_append_left (by omega)] at h2;exact hr j u ys h1 h2
 .have hj:j=k:=by have:=(List.getElem?_eq_some_iff.1 h1).1;simp [hvl] at this;omega
  subst hj;rw [List.getElem?_append_right (by omega),hvl,Nat.sub_self] at h1;rw [List.getElem?_append_right (by omega),hl,Nat.sub_self] at h2;cases h1;cases h2;exact hv
theorem mq17 {p:Prop} (h:p:=by simp only [intOf];omega):p:=h
theorem c_l13End {v0 v1:Value} {ar t rest:List Int} {p:Nat} {u:Tm} {w:World} (h0:RdSig w v0 ar) (h1:RdI w v1 t) (hs:SigP ar) (hu:u.Ok ar) (hd:t.drop p=u.flat++rest) :
 Calls Tryz.prog 107 #[v0,v1,.int .i64 (p:Int)] w fun e w'=>e=.returned (.int .i64 ((p+u.flat.length:Nat):Int))∧Ext w w':=by
 have hend:=endI_flat hu hd;have hpl:=drop_lt hd (flat_pos u);obtain ⟨A,n,c,rfl,ha⟩:=h0;obtain ⟨B,m,d,rfl,hb⟩:=h1;have hm:=hb.le;have hml:=hb.len;have HN:=Lib.hid ha.len;have HA:=Lib.hid ha;have HB:=Lib.hid hb;have HS:=Lib.hid hs;have HE:=Lib.hid hend;have HM:=Lib.hid hml;have hpm:p≤m:=by omega
 clear ha hb hs hend hml hd hu hpl;go_enter Tryz.func107,Tryz.ntmps107;go_wp2_with fail;obtain ⟨wo,hwo⟩:∃ wo,wo=w.alloc (.cells #[.slice A n c] 29):=⟨_,rfl⟩;have hb0:wo.cell? ⟨w.heap.size,0,none⟩=some (.slice A n c):=by rw [hwo];simp [go_sem]
 have hEo:Ext w wo:=by rw [hwo];exact extX
 rw [← hwo];clear hwo;go_loopw [2,7] (fun i nn wr=>∃ q nd:Nat,i=.int .i64 q∧nn=.int .i64 nd∧nd≤1+3 * q∧q≤m∧Hid (ScanAt (arI ar) t p q nd)∧Ext wo wr) (fun i _ _=>m+1 - (intOf i).toNat)
 case atStart=>exact ⟨p,1,rfl,rfl,by omega,by omega,Lib.hid (ScanAt.start (by rw [HM.out];exact hpm)),extX⟩
 case round=>
  obtain ⟨q,nd,rfl,rfl,hnd,hqm,hsc,hE⟩:=hrel;have hr0:wr.cell? ⟨w.heap.size,0,none⟩=some (.slice A n c):=Ext.keep hE hb0;rcases nd with _ | nd
  .go_wp2;go_ret;exact ⟨ret_int (hsc.out.done.symm.trans HE.out),extX⟩
  .by_cases hq:q=m
   .exfalso
    have h1:=hsc.out.out (by rw [HM.out];exact hq);have h2:endF (arI ar) t p=_:=HE.out;rw [h1] at h2;omega
   .have hq':q < m:=by omega
    obtain ⟨b,o,x,rfl,hx,hcx⟩:=RI.at_ (RI.ext HB.out (extX:Ext w wr)) hq';rcases hf:arI ar x with _ | a
    .exfalso
     have h1:=hsc.out.bad hx hf;have h2:endF (arI ar) t p=_:=HE.out;rw [h1] at h2;omega
    .have ha3:=arI_le HS.out hf;have HSC:=Lib.hid (hsc.out.step hx hf);have hxl:=arI_lt hf;rw [HN.out] at hxl;have hqi:(q:Int) < (m:Int):=by omega
     by_cases hx0:x < 0
     .have ha0:a=0:=by rw [arI_neg hx0] at hf;cases hf;rfl
      subst ha0;clear hf hx;go_wp2;go_roundw
      case rel=>exact ⟨q+1,nd,by go_num,by go_num,by omega,by omega,HSC,extX⟩
      case measure=>exact mq17
     .obtain ⟨z0,rfl⟩:=Int.eq_ofNat_of_zero_le (show 0≤x by omega);have hzn:z0 < n:=by omega
      obtain ⟨b2,o2,s,rfl,hs2,hcs⟩:=RI.at_ (RI.ext HA.out (extX:Ext w wr)) hzn;have has:(s:Int)=(a:Int):=by
       rw [arI_at (by omega) (by rw [Int.toNat_natCast];exact hs2)] at hf;have:=HS.out.2.2 s (List.mem_of_getElem? hs2);injection hf with hf;omega
      subst has;clear hf hx hs2;go_wp2_with fail;go_quiet (fail)
      go_wp2;go_roundw
      case rel=>exact ⟨q+1,nd+a,by go_num,by go_num,by omega,by omega,HSC,extX⟩
      case measure=>exact mq17
theorem alloc_at (w:World) (o:Obj):(w.alloc o).heap[w.heap.size]?=some o:=by show (w.heap.push o)[w.heap.size]?=some o;simp
theorem slices_info:(Tryz.prog.info? 27).map (fun i=>(i.zero,i.size,i.bytes))=some (some (.slice none 0 0),1,24):=by kernel_rfl
theorem c_l13Parts {v0 v1:Value} {ar:List Int} {x:Int} {us:List Tm} {w:World} (h0:RdSig w v0 ar) (h1:RdIc w v1 (Tm.node x us).flat) (hs:SigP ar) (hu:(Tm.node x us).Ok ar) :
 Calls Tryz.prog 84 #[v0,v1] w fun e w'=>∃ A n c,e=.returned (.slice A n c)∧n=us.length∧RS w' A n (us.map Tm.flat)∧Ext w w':=by
 obtain ⟨A,n,c,rfl,ha⟩:=h0;obtain ⟨B,m,d,rfl,⟨hmd,hd⟩,hb⟩:=h1;have hm:=hb.le;have hml:=hb.len;have hnl:=ha.len;have hfl:(flatL us).length+1=(Tm.node x us).flat.length:=by rw [flat_node];rfl
 obtain ⟨hok,hol⟩:=Ok_node.1 hu;have hal:us.length≤3:=arI_le hs hok;obtain ⟨b,o,y,rfl,hy,hcy⟩:=RI.at_ hb (show 0 < m by omega);rw [flat_node] at hy;cases hy;rw [Nat.add_zero] at hcy;have hbl:b < w.heap.size:=World.block_lt_of_cell? w _ hcy;have hm0:(0:Int) < (m:Int):=by omega
 obtain ⟨i0,hii,hiz,his,hib⟩:=info_parts slices_info;have HA:=Lib.hid ha;have HB:=Lib.hid hb;have HS:=Lib.hid hs;have HOK:=Lib.hid hok;have HOL:=Lib.hid (OkL_iff.1 hol);have HFL:=Lib.hid hfl;have HM:=Lib.hid hml;have hxl:=arI_lt hok;clear ha hb hs hok hol hu hml;by_cases hx0:x < 0
 .have ha0:us.length=0:=by have:=HOK.out;rw [arI_neg hx0] at this;injection this with this;exact this.symm
  have ha1:us=[]:=List.eq_nil_of_length_eq_zero ha0;go_enter Tryz.func84,Tryz.ntmps84;go_wp2;go_ret;exact ⟨_,_,_,rfl,by rw [ha0],⟨⟨by simp [ha0],by omega⟩,fun j xs hx=>by rw [ha1] at hx;simp at hx⟩,extX⟩
 .obtain ⟨z0,rfl⟩:=Int.eq_ofNat_of_zero_le (show 0≤x by omega);have hzn:z0 < n:=by omega
  obtain ⟨b2,o2,s,rfl,hs2,hcs⟩:=RI.at_ HA.out hzn;have has:(s:Int)=(us.length:Int):=by
   have hf:=HOK.out;rw [arI_at (by omega) (by rw [Int.toNat_natCast];exact hs2)] at hf;have:=HS.out.2.2 s (List.mem_of_getElem? hs2);injection hf with hf;omega
  subst has;have hzi:(z0:Int) < (n:Int):=by omega
  clear hs2 hfl hnl hxl;go_enter Tryz.func84,Tryz.ntmps84;go_wp2_with fail;obtain ⟨wo,hwo⟩:∃ wo,wo=(w.alloc (.cells #[.slice (some ⟨b2,o2,none⟩) n c] 29)).alloc (.cells #[] 27):=⟨_,rfl⟩;have hb0:wo.cell? ⟨w.heap.size,0,none⟩=some (.slice (some ⟨b2,o2,none⟩) n c):=by rw [hwo];simp [go_sem]
  have hh0:wo.heap[w.heap.size+1]?=some (.cells #[] 27 (0,0)):=by rw [hwo];have:=alloc_at (w.alloc (.cells #[.slice (some ⟨b2,o2,none⟩) n c] 29)) (.cells #[] 27);rwa [World.size_alloc] at this
  have hsz0:wo.heap.size=w.heap.size+2:=by rw [hwo];simp [go_sem]
  have hEo:Ext w wo:=by rw [hwo];exact extX
  rw [← hwo];clear hwo;go_loopw [5,6,7] (fun ov av kv wr=>∃ k:Nat,kv=.int .i64 k∧k≤us.length∧(∃ q:Nat,av=.int .i64 (q:Int)∧Hid (q=1+(flatL (us.take k)).length)∧q≤m)∧(∃ g c,ov=.slice (some ⟨g,0,none⟩) k c∧Hid (OwS w wr (w.heap.size+1) (some ⟨g,0,none⟩) k c ((us.take k).map Tm.flat)))∧Ext w wr∧wr.cell? ⟨w.heap.size,0,none⟩=some (.slice (some ⟨b2,o2,none⟩) n c)) (fun _ _ kv _=>us.length - (intOf kv).toNat)
  case atStart=>exact ⟨0,rfl,Nat.zero_le _,⟨1,by go_num,Lib.hid (by simp [flatL_nil]),by omega⟩,⟨w.heap.size+1,0,rfl,Lib.hid ⟨by omega,[],⟨rfl,.inr ⟨w.heap.size+1,0,#[],rfl,Nat.le_refl _,hh0,Nat.le_refl _,by decide,rfl,rfl⟩⟩,by simp,fun j v xs h=>by simp at h⟩⟩,hEo,hb0⟩
  case round=>
   obtain ⟨k,rfl,hk,⟨q,rfl,hq,hqm⟩,⟨g,c1,rfl,hO⟩,hE,hr0⟩:=hrel;have hcx:wr.cell? ⟨b,o,none⟩=some (.int .i64 (z0:Int)):=Ext.keep hE hcy;have hcz:wr.cell? ⟨b2,o2+z0,none⟩=some (.int .i64 (us.length:Int)):=Ext.keep hE hcs;by_cases hlt:k < us.length
   .obtain ⟨a,hak⟩:∃ a,us[k]?=some a:=⟨us[k],List.getElem?_eq_getElem hlt⟩;have hda:=drop_arg (x:=(z0:Int)) (t:=(Tm.node (z0:Int) us).flat) (p:=0) (rest:=[]) (by simp) hak;rw [Nat.zero_add,← hq.out] at hda;have hao:=HOL.out a (List.mem_of_getElem? hak);have hqa:=drop_lt hda (flat_pos a);have hal2:=flat_pos a;rw [HM.out] at hqa;have hst:(us.take (k+1)).map Tm.flat=(us.take k).map Tm.flat++[a.flat]:=by rw [take_snoc hak];simp
    have hfk:(flatL (us.take (k+1))).length=(flatL (us.take k)).length+a.flat.length:=by
     rw [take_snoc hak,flatL_append,flatL_cons,flatL_nil,List.append_nil,List.length_append]
    have HDA:=Lib.hid hda;have HAO:=Lib.hid hao;have HST:=Lib.hid hst;have HFK:=Lib.hid hfk;clear hda hao hst hfk hak;have hlt':(k:Int) < (us.length:Int):=by omega
    go_wp2_with fail;go_quiet (fail)
    have hEd:Ext w (wr.drewN nq):=extX;have hrd:(wr.drewN nq).cell? ⟨w.heap.size,0,none⟩=some (.slice (some ⟨b2,o2,none⟩) n c):=hr0;have hqd2:((q+a.flat.length:Nat):Int)≤(d:Int):=by omega
    have hqd3:(0:Int)≤(q:Int):=by omega
    go_wp2_with fail
    (with_reducible refine (c_l13End (u:=a) (RdSig.mk (RI.ext HA.out extX)) (RdI.mk (RI.ext HB.out extX)) HS.out HAO.out HDA.out).mono ?_);rintro e w5 ⟨rfl,hE5⟩;have hE6:Ext wr w5:=Ext.trans (Ext.drewN (Ext.refl _) _) hE5;obtain ⟨hn5,vs,hown5,hl5,hr5⟩:=hO.out.ext hE6;have hvl:vs.length=k:=by have:=hown5.1;simpa using this
    have HRI:=Lib.hid (RdIc.mk (c:=d - q) (by omega) (RI.sub HB.out HDA.out));have HR5:=Lib.hid hr5;have hb5:w5.cell? ⟨w.heap.size,0,none⟩=some (.slice (some ⟨b2,o2,none⟩) n c):=Ext.keep hE6 hr0;have hE7:Ext w w5:=extX;have hsz7:=hE7.size;have hlt5:w.heap.size < w5.heap.size:=World.block_lt_of_cell? w5 _ hb5;have hl8:((us.take k).map Tm.flat).length=k:=hl5;have HWN:=Lib.hid hown5;clear hn5 hl5 hr5 hown5 hO;go_wp2_with (at_builtin;go_loud (refine wpList_append_lies _ rfl (.tmp 30) (.tmp 35) 111 rfl (w.heap.size+1) 27 i0 (.slice none 0 0) 1 24 Tryz.underlying111 hii hiz his hib rfl (by decide) _ _ vs rfl (World.ownsRow.alloc HWN.out _) ⟨w5.heap.size,0,none⟩ 1 1 [.slice (some ⟨b,o+q,none⟩) a.flat.length (d - q)] rfl rfl (one_cells _ _ _) (one_slice _ _ _) (by decide) (by unfold maxLen;omega) (by omega) (by simp [go_sem];omega) _ rfl ?_))
    intro g2 cap2 wx hown hg hat hltg;have hE8:Ext w wx:=Ext.grown (hE7.alloc _) hg (fun k' hk'=>by have:=World.ownsRow.lt HWN.out _ hk';omega);have hbx:wx.cell? ⟨w.heap.size,0,none⟩=some (.slice (some ⟨b2,o2,none⟩) n c):=(hg.cell_far ⟨w.heap.size,0,none⟩ (by simp [go_sem];omega) (fun e=>by have:=World.ownsRow.lt HWN.out _ e.symm;simp at this;omega)).trans ((World.cell?_alloc_past _ _ _ (by omega)).trans hb5);have HNEW:=Lib.hid (OwS.step (by omega) hl8 HR5.out hvl HRI.out hown);clear hown hg hat
    go_wp2;go_roundw
    case rel=>exact ⟨k+1,by go_num,by omega,⟨q+a.flat.length,by go_num,Lib.hid (by rw [HFK.out,hq.out];omega),by omega⟩,⟨_,_,rfl,by rw [HST.out];exact HNEW⟩,hE8,hbx⟩
    case measure=>exact mq17
   .have hkn:k=us.length:=by omega
    have hlt':decide ((k:Int) < (us.length:Int))=false:=by simp;omega
    go_wp2_with fail;go_quiet (fail)
    go_wp2;go_ret;exact ⟨_,_,_,rfl,hkn,by have:=hO.out.rs hE;rw [hkn,List.take_length] at this;rw [hkn];exact this.ext extX,extX⟩

