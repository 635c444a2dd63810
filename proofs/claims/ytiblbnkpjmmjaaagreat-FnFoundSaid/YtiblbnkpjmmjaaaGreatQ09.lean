/- -/
import Derived.Test.YtiblbnkpjmmjaaaGreatQ08
import Derived.Conc.TokenWalk
set_option maxRecDepth 100000
set_option maxHeartbeats 16000000
set_option linter.all false
namespace Go.Proofs.YtiblbnkpjmmjaaaGreat
open Go.Conc
structure An where
 O:Set_
 β:Bl
 v:World
 w:World
def Wk (P:Program) (L:Lim) (main:Bool) (Stop:Set_→Goroutine→World→Prop) (A:An) (b:Frame) (rc:List Frame) (k:List Item) (Φ:Act→World→Prop):Prop:=
 ∀ γ ag a v w O,Φ ag v→ag.defers=[]→a.defers=[]→VsRel L γ ag.tmps a.tmps→WRel L γ v w→Named O γ→Acc A.O A.β A.v A.w O γ v w→Co P main Stop O (G (b.at a k) rc) w
def WkR (P:Program) (L:Lim) (main:Bool) (Stop:Set_→Goroutine→World→Prop) (A:An) (b:Frame) (rc:List Frame) (Φ:Act→World→Prop):Prop:=
 ∀ γ ag a v w O todo,Φ ag v→ag.defers=[]→a.defers=[]→VsRel L γ ag.tmps a.tmps→WRel L γ v w→Named O γ→Acc A.O A.β A.v A.w O γ v w→Co P main Stop O (G { b.at a todo with mode:=.returning } rc) w
def Ins (Φ:Act→World→Prop):Prop:=∀ a v τ d,Φ a v→Φ a (reW v τ d)
def Offs (Stop:Set_→Goroutine→World→Prop):Prop:=∀ O g w of,Stop O g w→Stop O { g with offers:=of } w
structure Cx (P:Program) (L:Lim):Prop where
 pl:PL P L
 gl:P.globals.size≤L.g
 fn:FnsOK P L
section
variable {P:Program} {L:Lim} {main:Bool} {Stop:Set_→Goroutine→World→Prop} {A:An} {b:Frame} {rc:List Frame} {k k':List Item} {Φ Ψ:Act→World→Prop} {β γ:Bl} {ag a:Act}
theorem VsRel.put (h:VsRel L β ag.tmps a.tmps) (dst:Option Tmp) {x y:Value} (hv:VRel L β x y):VsRel L β (ag.put dst x).tmps (a.put dst y).tmps:=by
 unfold Act.put;cases dst with
 | none=>exact h
 | some t=>exact h.set t hv
theorem put_defers (a:Act) (dst:Option Tmp) (x:Value):(a.put dst x).defers=a.defers:=by
 unfold Act.put;cases dst<;>rfl
theorem act_eval (h:VsRel L β ag.tmps a.tmps) {x:Operand} (hx:XOK L x):VRel L β (ag.eval x) (a.eval x):=by
 cases x with
 | tmp t=>
  show VRel L β (ag.tmps.getD t undef) (a.tmps.getD t undef);rw [Array.getD_eq_getD_getElem?,Array.getD_eq_getD_getElem?];cases hv:ag.tmps[t]? with
  | none=>rw [h.none hv];exact undef_rel
  | some v=>
   obtain ⟨w,hw,hr⟩:=h.get hv;rw [hw];exact hr
 | const v=>exact hx β
 | global g=>exact hx.elim
 | func f=>exact .func f hx rfl rfl (fun i v w h=>by simp at h) (fun i v w h=>by simp at h)
theorem act_evals (h:VsRel L β ag.tmps a.tmps) {xs:Array Operand} (hx:∀ x∈xs.toList,XOK L x):VsRel L β (xs.map ag.eval) (xs.map a.eval):=by
 refine ⟨by simp,fun i v w h1 h2=>?_⟩;rw [Array.getElem?_map] at h1 h2;obtain ⟨x,hx1,rfl⟩:=Option.map_eq_some_iff.1 h1;rw [hx1] at h2;cases h2;exact act_eval h (hx x (Array.mem_toList_iff.2 (Array.mem_of_getElem? hx1)))
theorem Wk.mono (h:Wk P L main Stop A b rc k Ψ) (hm:∀ a v,Φ a v→Ψ a v):Wk P L main Stop A b rc k Φ:=fun γ ag a v w O hp=>h γ ag a v w O (hm _ _ hp)
theorem Wk.ex {ι:Sort _} {F:ι→Act→World→Prop} (h:∀ i,Wk P L main Stop A b rc k (F i)):Wk P L main Stop A b rc k (fun a v=>∃ i,F i a v):=fun γ ag a v w O ⟨i,hp⟩=>h i γ ag a v w O hp
theorem Wk.pure {p:Prop} (h:p→Wk P L main Stop A b rc k Φ):Wk P L main Stop A b rc k (fun a v=>p∧Φ a v):=fun γ ag a v w O hp=>h hp.1 γ ag a v w O hp.2
theorem Wk.one (h:Wk P L main Stop A b rc k' Φ) (hs:∀ (a:Act) (w:World),stepG P main (G (b.at a k) rc) w=.go (G (b.at a k') rc) w):Wk P L main Stop A b rc k Φ:=
 fun γ ag a v w O h1 h2 h3 h4 h5 h6 h7=>Co.one rfl (hs a) (h γ ag a v w O h1 h2 h3 h4 h5 h6 h7)
theorem Wk.use {O:Set_} {v w:World} (h1:Φ ag v) (h2:ag.defers=[]) (h3:a.defers=[]) (h4:VsRel L γ ag.tmps a.tmps) (h5:WRel L γ v w) (h6:Named O γ) (h7:Acc A.O A.β A.v A.w O γ v w) (h:Wk P L main Stop A b rc k Φ):Co P main Stop O (G (b.at a k) rc) w:=h γ ag a v w O h1 h2 h3 h4 h5 h6 h7
theorem Wk.seq {x y:Code} (h:Wk P L main Stop A b rc (.code x :: .code y :: k) Φ):Wk P L main Stop A b rc (.code (.seq x y) :: k) Φ:=h.one fun _ _=>stepG_seq
theorem Wk.skip (h:Wk P L main Stop A b rc k Φ):Wk P L main Stop A b rc (.code .skip :: k) Φ:=h.one fun _ _=>stepG_skip
theorem Wk.block {id:Nat} {c:Code} (h:Wk P L main Stop A b rc (.code c :: .inBlock id :: k) Φ):Wk P L main Stop A b rc (.code (.block id c) :: k) Φ:=h.one fun _ _=>stepG_block
theorem Wk.inBlock {id:Nat} (h:Wk P L main Stop A b rc k Φ):Wk P L main Stop A b rc (.inBlock id :: k) Φ:=h.one fun _ _=>stepG_inBlock
theorem Wk.loop {c:Code} (h:Wk P L main Stop A b rc (.code c :: .inLoop c :: k) Φ):Wk P L main Stop A b rc (.code (.loop c) :: k) Φ:=h.one fun _ _=>stepG_loop
theorem Wk.inLoop {c:Code} (h:Wk P L main Stop A b rc (.code c :: .inLoop c :: k) Φ):Wk P L main Stop A b rc (.inLoop c :: k) Φ:=h.one fun _ _=>stepG_inLoop
theorem Wk.exit {id:Nat} (he:exitTo id k=some k') (h:Wk P L main Stop A b rc k' Φ):Wk P L main Stop A b rc (.code (.exit id) :: k) Φ:=h.one fun _ _=>stepG_exit he
theorem Wk.region {id:Nat} {ops:Array Oper} (h:Wk P L main Stop A b rc (.inRegion ops (List.range ops.size) :: k) Φ):Wk P L main Stop A b rc (.code (.region id ops false) :: k) Φ:=h.one fun _ _=>stepG_region
theorem Wk.reg {id:Nat} {ops:Array Oper} {l:List Nat} (hl:List.range ops.size=l) (h:Wk P L main Stop A b rc (.inRegion ops l :: k) Φ):Wk P L main Stop A b rc (.code (.region id ops false) :: k) Φ:=by subst hl;exact Wk.region h
theorem Wk.regionEnd {ops:Array Oper} (h:Wk P L main Stop A b rc k Φ):Wk P L main Stop A b rc (.inRegion ops [] :: k) Φ:=h.one fun _ _=>stepG_region_end
theorem Wk.ret (h:WkR P L main Stop A b rc Φ):Wk P L main Stop A b rc (.code .ret :: k) Φ:=
 fun γ ag a v w O h1 h2 h3 h4 h5 h6 h7=>Co.one rfl (fun _=>stepG_ret') (h γ ag a v w O _ h1 h2 h3 h4 h5 h6 h7)
theorem Wk.cond {c:Operand} {x y:Code} (hx:XOK L c) (hb:∀ a v,Φ a v→∃ t,a.eval c=.bool t) (h1:Wk P L main Stop A b rc (.code x :: k) (fun a v=>Φ a v∧a.eval c=.bool true))
 (h2:Wk P L main Stop A b rc (.code y :: k) (fun a v=>Φ a v∧a.eval c=.bool false)):Wk P L main Stop A b rc (.code (.cond c x y) :: k) Φ:=by
 intro γ ag a v w O hp k2 k3 k4 k5 k6 k7;obtain ⟨t,ht⟩:=hb _ _ hp;have hr:=act_eval k4 hx;rw [ht] at hr;have hr':a.eval c=.bool t:=by
  generalize a.eval c=y at hr
  cases hr;rfl
 refine Co.one rfl (fun _=>stepG_cond hr') ?_;cases t
 .exact h2 γ ag a v w O ⟨hp,ht⟩ k2 k3 k4 k5 k6 k7
 .exact h1 γ ag a v w O ⟨hp,ht⟩ k2 k3 k4 k5 k6 k7
theorem Wk.code (X:Cx P L) (hSo:Offs Stop) {c:Code} (hc:CodeOK P L c) (hb:b.kind=.normal) (hbf:∃ f,P.funcs[b.fn]?=some f) {Ρ:Act→World→Prop} (iΦ:Ins Φ) (iΨ:Ins Ψ) (iΡ:Ins Ρ)
 (hwp:∀ a v,Φ a v→a.defers=[]→c.wp P (fun e a' v'=>(e=.normal∧Ψ a' v')∨(e=.ret∧Ρ a' v')) a v) (hn:Wk P L main Stop A b rc k Ψ) (hr:WkR P L main Stop A b rc Ρ):Wk P L main Stop A b rc (.code c :: k) Φ:=by
 intro γ ag a v w O hp k2 k3 k4 k5 k6 k7
 refine co_code X.pl X.gl X.fn hSo hc hb hbf k2 k3 k4 k5 k6 (Q:=fun e a' v'=>(e=.normal∧Ψ a' v')∨(e=.ret∧Ρ a' v')) (fun e a v τ d h=>h.imp (fun h=>⟨h.1,iΨ _ _ _ _ h.2⟩) fun h=>⟨h.1,iΡ _ _ _ _ h.2⟩)
  (fun e a v h=>h.imp (·.1) (·.1)) (fun τ d=>hwp _ _ (iΦ _ _ _ _ hp) k2) (fun γ' ag' a' v' w' O' hq hd1 hd2 hv hW hN hA=>?_) fun γ' ag' a' v' w' O' todo hq hd1 hd2 hv hW hN hA=>?_
 .rcases hq with ⟨_,hq⟩ | ⟨h,_⟩
  .exact hn _ _ _ _ _ _ hq hd1 hd2 hv hW hN (k7.trans hA)
  .cases h
 .rcases hq with ⟨h,_⟩ | ⟨_,hq⟩
  .cases h
  .exact hr _ _ _ _ _ _ _ hq hd1 hd2 hv hW hN (k7.trans hA)
theorem Wk.codes (X:Cx P L) (hSo:Offs Stop) {pcs:List Code} {tail:Code} (hc:∀ c∈pcs,CodeOK P L c) (hb:b.kind=.normal) (hbf:∃ f,P.funcs[b.fn]?=some f) {Ρ:Act→World→Prop} (iΦ:Ins Φ) (iΨ:Ins Ψ) (iΡ:Ins Ρ)
 (hwp:∀ a v,Φ a v→a.defers=[]→wpS P pcs (fun e a' v'=>(e=.normal∧Ψ a' v')∨(e=.ret∧Ρ a' v')) a v) (hn:Wk P L main Stop A b rc (.code tail :: k) Ψ) (hr:WkR P L main Stop A b rc Ρ):Wk P L main Stop A b rc (.code (spineC tail pcs) :: k) Φ:=by
 intro γ ag a v w O hp k2 k3 k4 k5 k6 k7
 refine co_codes X.pl X.gl X.fn hSo hc hb hbf k2 k3 k4 k5 k6 (Q:=fun e a' v'=>(e=.normal∧Ψ a' v')∨(e=.ret∧Ρ a' v')) (fun e a v τ d h=>h.imp (fun h=>⟨h.1,iΨ _ _ _ _ h.2⟩) fun h=>⟨h.1,iΡ _ _ _ _ h.2⟩)
  (fun e a v h=>h.imp (·.1) (·.1)) (fun τ d=>hwp _ _ (iΦ _ _ _ _ hp) k2) (fun γ' ag' a' v' w' O' hq hd1 hd2 hv hW hN hA=>?_) fun γ' ag' a' v' w' O' todo hq hd1 hd2 hv hW hN hA=>?_
 .rcases hq with ⟨_,hq⟩ | ⟨h,_⟩
  .exact hn _ _ _ _ _ _ hq hd1 hd2 hv hW hN (k7.trans hA)
  .cases h
 .rcases hq with ⟨h,_⟩ | ⟨_,hq⟩
  .cases h
  .exact hr _ _ _ _ _ _ _ hq hd1 hd2 hv hW hN (k7.trans hA)
theorem Wk.op (X:Cx P L) (hk:b.kind≠.early) {ops:Array Oper} {i:Nat} {rest:List Nat} {o:Oper} (ho:ops[i]?=some o) {d:Option Tmp} (hd:o.dst=d) (hok:OpOK P L o.op) (iΦ:Ins Φ)
 (h:∀ a v,Φ a v→a.defers=[]→Region.wanted o (yielded ops a.tmps)=true∧((∃ x v',(execOp a.eval o).run P v=.ok (.value x) v'∧Ψ (a.put d x) v')∨∃ v',(execOp a.eval o).run P v=.ok .skip v'∧Ψ (a.put d undef) v'))
 (hn:Wk P L main Stop A b rc (.inRegion ops rest :: k) Ψ):Wk P L main Stop A b rc (.inRegion ops (i :: rest) :: k) Φ:=by
 subst hd;intro γ ag a v w O hp k2 k3 k4 k5 k6 k7;have key:∀ w1,Ry O w w1→∃ δ a' ag' v' w' es,stepG P main (G (b.at a (.inRegion ops (i :: rest) :: k)) rc) w1=.go (G (b.at a' (.inRegion ops rest :: k)) rc) w' es∧Foot L γ δ (reW v (nextT w1) 0) w1 v' w'∧(∀ e∈es,EvOk δ e)∧Ψ ag' v'∧ag'.defers=[]∧a'.defers=[]∧VsRel L δ ag'.tmps a'.tmps:=fun w1 hr=>by
  obtain ⟨hw,hrun⟩:=h ag (reW v (nextT w1) 0) (iΦ _ _ _ _ hp) k2;have hwa:Region.wanted o (yielded ops a.tmps)=true:=by rw [show yielded ops a.tmps=yielded ops ag.tmps from funext fun j=>yielded_rel ops k4 j];exact hw
  have hrel:=(rel_op (P:=P) X.pl X.gl hok (ρ:=ag.eval) (σ:=a.eval) fun x hx=>act_eval k4 hx).run ((k5.ry k6 hr).re (nextT w1) 0) (agree_next v w1);rcases hrun with ⟨x,v',hrun,hΨ⟩ | ⟨v',hrun,hΨ⟩<;>rw [hrun] at hrel<;>obtain ⟨δ,y,w',e1,F,hN,hE⟩:=hrel<;>cases hN
  .rename_i y hv
   refine ⟨δ,_,_,v',w',_,stepG_value ho hwa hk e1,F,fun e he=>(hE #[] e (seen_sub _ _ e he)).resolve_left (by simp),hΨ,by rw [put_defers,k2],by rw [put_defers,k3],(k4.mono F.le).put _ hv⟩
  .refine ⟨δ,_,_,v',w',_,stepG_none ho hwa hk e1,F,fun e he=>(hE #[] e (seen_sub _ _ e he)).resolve_left (by simp),hΨ,by rw [put_defers,k2],by rw [put_defers,k3],(k4.mono F.le).put _ undef_rel⟩
 refine .step rfl (fun w1 hr=>?_) fun w1 g2 w2 es2 hr e=>?_
 .obtain ⟨δ,a',ag',v',w',es,h1,F,hE,_⟩:=key w1 hr;exact ⟨_,w',es,h1,F.gu k6 hE⟩
 .obtain ⟨δ,a',ag',v',w',es,h1,F,hE,hΨ,hd1,hd2,hv⟩:=key w1 hr;rw [h1] at e;cases e;exact hn _ _ _ _ _ _ hΨ hd1 hd2 hv F.rel (F.named k6) (((k7.rely hr).re (nextT w1) 0).foot F)
theorem Wk.call (X:Cx P L) (hk:b.kind≠.early) {ops:Array Oper} {i:Nat} {rest:List Nat} {o:Oper} {f:FuncId} {args:Array Operand} {ats:Array TypeId} (ho:ops[i]?=some o) (hop:o.op=.call { callee:=.value (.func f),args,argTypes:=ats }) (hg:o.guard=none) {d:Option Tmp} (hd:o.dst=d)
 (hf:L.fn f) (hT:∀ fn,P.funcs[f]?=some fn→TmpRes fn) (hx:∀ x∈args.toList,XOK L x) (iΦ:Ins Φ) (iΨ:Ins Ψ)
 (h:∀ a v,Φ a v→a.defers=[]→Calls P f (args.map a.eval) v fun e v'=>∃ x,e=.returned x∧Ψ (a.put d x) v')
 (hn:Wk P L main Stop A b rc (.inRegion ops rest :: k) Ψ):Wk P L main Stop A b rc (.inRegion ops (i :: rest) :: k) Φ:=by
 subst hd;intro γ ag a v w O hp k2 k3 k4 k5 k6 k7;obtain ⟨fn,hfn,hnm,hbd⟩:=X.pl.fn f hf;have hwa:∀ t,Region.wanted o (yielded ops t)=true:=fun t=>by simp [Region.wanted,hg]
 have hb':fn.body.isNone=false:=by cases h:fn.body<;>simp_all
 refine Co.one rfl (fun w1=>?_) (co_enter X.pl X.gl X.fn hf hT (act_evals k4 hx) k5 k6 (R:=fun x v'=>Ψ (ag.put o.dst x) v') (fun x v τ d hh=>iΨ _ _ _ _ hh) (fun τ d=>h _ _ (iΦ _ _ _ _ hp) k2) (c:=b.at a (.inRegion ops (i :: rest) :: k)) (cs:=rc) fun γ' x y v' w' O' hq hv hW hN hA=>?_)
 .rw [stepG_enter ho (hwa _) hk (run_call_body hop hfn hnm hb')];have:listed P b.fn a o w1=#[]:=by unfold listed;rw [events_call_body hop hfn hnm hb'];exact seen_none P _
  rw [this]
 .rw [Frame.finish_at,ho];exact hn _ _ _ _ _ _ hq (by rw [put_defers,k2]) (by rw [put_defers,k3]) ((k4.mono hA.le).put _ hv) hW hN (k7.trans hA)
theorem WkR.leave {fn:Func} (hb:b.kind=.normal) (hf:P.funcs[b.fn]?=some fn) (hT:TmpRes fn) {R:Value→World→Prop} (hR:∀ a v,Φ a v→∃ x,(∀ u,(results fn a.tmps).run P u=.ok x u)∧R x v) {c:Frame} {cs:List Frame}
 (next:∀ γ x y v' w' O',R x v'→VRel L γ x y→WRel L γ v' w'→Named O' γ→Acc A.O A.β A.v A.w O' γ v' w'→Co P main Stop O' (G (c.finish y) cs) w'):WkR P L main Stop A b (c :: cs) Φ:=by
 intro γ ag a v w O todo hp k2 k3 k4 k5 k6 k7;obtain ⟨x,hx,hq⟩:=hR _ _ hp;obtain ⟨y,hy⟩:=tmpRes_run (P:=P) hT a.tmps;have hxy:VRel L γ x y:=by
  have hr:=(rel_results (P:=P) (L:=L) fn k4).run (k5.re (nextT w) 0) (agree_next v w);have e2:(results fn a.tmps).run P w=.ok y w:=by
   have:=hy w #[];rw [Sem.runT_eq] at this;exact (Prod.mk.inj this).1
  rw [hx] at hr;obtain ⟨δ,y2,w3,q1,q2,q3,q4⟩:=hr;rw [e2] at q1;cases q1;refine VRel.mono (fun k z e=>?_) q3;rcases q2.new k z e with e | ⟨_,e2⟩
  .exact e
  .obtain ⟨o,p,h1,_⟩:=q2.rel.blk k z e;have:=lt_of_heap h1;omega
 exact Co.one rfl (fun u=>leave_step (fr:={ b.at a todo with mode:=.returning }) hf rfl k3 hb hy u) (next γ x y v w O hq hxy k5 k6 k7)
theorem co_into (hk:b.kind≠.early) {ops:Array Oper} {i:Nat} {rest:List Nat} {o:Oper} {f:FuncId} {fn:Func} {c:Code} {args:Array Operand} {ats:Array TypeId} (ho:ops[i]?=some o) (hop:o.op=.call { callee:=.value (.func f),args,argTypes:=ats }) (hg:o.guard=none)
 (hf : P.funcs[f]? = some fn) (hname : (fn.name == "runtime.NumGoroutine") = false) (hbd : fn.body = some c) (hx : ∀ x ∈ args.toList, XOK L x) {O : Set_} {v w : World} (k2 : ag.defers = []) (k3 : a.defers = []) (k4 : VsRel L γ ag.tmps a.tmps) (k5 : WRel L γ v w) (k6 : Named O γ)
 (hW:Wk P L main Stop ⟨O,γ,v,w⟩ (base f) (b.at a (.inRegion ops (i :: rest) :: k) :: rc) [.code c] fun a' v'=>a'={ tmps:=args.map ag.eval++Array.replicate (fn.ntmps - args.size) undef,defers:=[] }∧v'=v):Co P main Stop O (G (b.at a (.inRegion ops (i :: rest) :: k)) rc) w:=by
 have hb':fn.body.isNone=false:=by rw [hbd];rfl
 have hwa:∀ t,Region.wanted o (yielded ops t)=true:=fun t=>by simp [Region.wanted,hg]
 refine Co.one rfl (fun w1=>?_) (hW γ _ { tmps:=args.map a.eval++Array.replicate (fn.ntmps - args.size) undef,defers:=[] } v w O ⟨rfl,rfl⟩ rfl rfl ?_ k5 k6 (Acc.refl _ _ _ _))
 .rw [stepG_enter ho (hwa _) hk (run_call_body hop hf hname hb'),enter_at _ hf hbd];have:listed P b.fn a o w1=#[]:=by unfold listed;rw [events_call_body hop hf hname hb'];exact seen_none P _
  rw [this];simp
 .refine (act_evals k4 hx).append ⟨by simp,fun i v w h1 h2=>?_⟩;have e1:=Array.mem_of_getElem? h1;have e2:=Array.mem_of_getElem? h2;rw [(Array.mem_replicate.1 e1).2,(Array.mem_replicate.1 e2).2];exact undef_rel
end
section
variable {L:Lim} {γ:Bl}
theorem exists_rows (bs:Array Value) (h:∀ y∈bs,∃ u,VRel L γ u y):∃ as1,VsRel L γ as1 bs:=by
 have h':∀ i:Fin bs.size,∃ u,VRel L γ u bs[i]:=fun i=>h _ (Array.getElem_mem _);refine ⟨Array.ofFn fun i=>Classical.choose (h' i),by simp,fun i v w h1 h2=>?_⟩;obtain ⟨hi,rfl⟩:=Array.getElem?_eq_some_iff.1 h2;rw [Array.getElem?_ofFn,dif_pos hi] at h1;cases h1;exact Classical.choose_spec (h' ⟨i,hi⟩)
theorem exists_clean:(y:Value)→∃ u,VRel L γ u y
 | .agg cs=>by
  obtain ⟨as1,h⟩:=exists_rows (L:=L) (γ:=γ) cs fun y hy=>exists_clean y;exact ⟨.agg as1,.agg h.1 h.2⟩
 | .tuple cs=>by
  obtain ⟨as1,h⟩:=exists_rows (L:=L) (γ:=γ) cs fun y hy=>exists_clean y;exact ⟨.tuple as1,.tuple h.1 h.2⟩
 | .bool b=>⟨_,.bool b⟩
 | .int k n=>⟨_,.int k n⟩
 | .string s=>⟨_,.string s⟩
 | .float k x=>⟨_,.poison ⟨by simp,by simp,by simp⟩⟩
 | .complex k x y=>⟨_,.poison ⟨by simp,by simp,by simp⟩⟩
 | .pointer a=>⟨_,.poison ⟨by simp,by simp,by simp⟩⟩
 | .slice a n c=>⟨_,.poison ⟨by simp,by simp,by simp⟩⟩
 | .map a=>⟨_,.poison ⟨by simp,by simp,by simp⟩⟩
 | .chan a=>⟨_,.poison ⟨by simp,by simp,by simp⟩⟩
 | .func f as1 cs=>⟨_,.poison ⟨by simp,by simp,by simp⟩⟩
 | .nilFunc=>⟨_,.nilFunc⟩
 | .iface t v=>⟨_,.poison ⟨by simp,by simp,by simp⟩⟩
 | .nilIface=>⟨_,.nilIface⟩
termination_by y=>SizeOf.sizeOf y
decreasing_by
 all_goals
  have:=Array.sizeOf_lt_of_mem hy
  simp_wf
  omega
open Classical in
/-- Rows with a wish. -/
theorem exists_wish (as1 bs:Array Value):∃ cs,VsRel L γ cs bs∧∀ (i:Nat) (u y:Value),as1[i]?=some u→bs[i]?=some y→VRel L γ u y→cs[i]?=some u:=by
 have h':∀ i:Fin bs.size,∃ u,VRel L γ u bs[i]∧∀ z,as1[i.1]?=some z→VRel L γ z bs[i]→u=z:=fun i=>by
  by_cases h:∃ z,as1[i.1]?=some z∧VRel L γ z bs[i]
  .obtain ⟨z,h1,h2⟩:=h;exact ⟨z,h2,fun z' h3 _=>by rw [h1] at h3;cases h3;rfl⟩
  .obtain ⟨u,hu⟩:=exists_clean (L:=L) (γ:=γ) bs[i];exact ⟨u,hu,fun z h1 h2=>absurd ⟨z,h1,h2⟩ h⟩
 refine ⟨Array.ofFn fun i=>Classical.choose (h' i),⟨by simp,fun i v w h1 h2=>?_⟩,fun i u y h1 h2 h3=>?_⟩
 .obtain ⟨hi,rfl⟩:=Array.getElem?_eq_some_iff.1 h2;rw [Array.getElem?_ofFn,dif_pos hi] at h1;cases h1;exact (Classical.choose_spec (h' ⟨i,hi⟩)).1
 .obtain ⟨hi,rfl⟩:=Array.getElem?_eq_some_iff.1 h2;rw [Array.getElem?_ofFn,dif_pos hi];rw [(Classical.choose_spec (h' ⟨i,hi⟩)).2 u h1 h3]
def cellsOf:Option Obj→Array Value
 | some (.cells c _ _)=>c
 | _=>#[]
open Classical in
/-- A GHOST WORLD MADE ANEW. -/
theorem rebuild (v w:World) (hcell:∀ k x,γ k=some x→k < v.heap.size∧∃ d T f,w.heap[x]?=some (.cells d T f)) (hinj:∀ k l x,γ k=some x→γ l=some x→k=l) (hv:L.g≤v.heap.size) (hw:L.g≤w.heap.size) :
 ∃ v',v'.heap.size=v.heap.size∧v'.tape=v.tape∧v'.drawn=v.drawn∧v'.os=v.os∧v'.output=v.output∧WRel L γ v' w ∧
  ∀ k x d T f,γ k=some x→w.heap[x]?=some (.cells d T f)→∃ c',v'.heap[k]?=some (.cells c' T f)∧c'.size=d.size∧∀ (j:Nat) (u y:Value),(cellsOf v.heap[k]?)[j]?=some u→d[j]?=some y→VRel L γ u y→c'[j]?=some u:=by
 have hk:∀ k:Nat,∃ o:Obj,∀ x d T f,γ k=some x→w.heap[x]?=some (.cells d T f)→∃ c',o=.cells c' T f∧VsRel L γ c' d∧∀ (j:Nat) (u y:Value),(cellsOf v.heap[k]?)[j]?=some u→d[j]?=some y→VRel L γ u y→c'[j]?=some u:=fun k=>by
  cases hg:γ k with
  | none=>exact ⟨default,fun x d T f e=>by cases e⟩
  | some x=>
   obtain ⟨_,d,T,f,e⟩:=hcell k x hg;obtain ⟨cs,h1,h2⟩:=exists_wish (L:=L) (γ:=γ) (cellsOf v.heap[k]?) d;refine ⟨.cells cs T f,fun x' d' T' f' e1 e2=>?_⟩;cases e1;rw [e] at e2;cases e2;exact ⟨cs,rfl,h1,h2⟩
 let v':World:={ v with heap:=Array.ofFn fun i:Fin v.heap.size=>Classical.choose (hk i.1) }
 have hget:∀ k,k < v.heap.size→v'.heap[k]?=some (Classical.choose (hk k)):=fun k h=>by
  show (Array.ofFn _)[k]?=_;rw [Array.getElem?_ofFn,dif_pos h]
 refine ⟨v',by simp [v'],rfl,rfl,rfl,rfl,⟨fun k x e=>?_,hinj,by simpa [v'] using hv,hw⟩,fun k x d T f e e2=>?_⟩
 .obtain ⟨hlt,d,T,f,e2⟩:=hcell k x e;obtain ⟨c',h1,h2,_⟩:=Classical.choose_spec (hk k) x d T f e e2;exact ⟨_,_,hget k hlt,e2,by rw [h1];exact .cells T f h2⟩
 .obtain ⟨hlt,_⟩:=hcell k x e;obtain ⟨c',h1,h2,h3⟩:=Classical.choose_spec (hk k) x d T f e e2;exact ⟨c',by rw [hget k hlt,h1],h2.1,h3⟩
end
section
variable {P:Program} {L:Lim} {main:Bool} {Stop:Set_→Goroutine→World→Prop} {A:An} {b:Frame} {rc:List Frame} {k k':List Item} {Φ Ψ:Act→World→Prop} {β γ:Bl} {ag a:Act} {ops:Array Oper} {i:Nat} {rest:List Nat} {o:Oper}
theorem pz_inv {v y:Value} (h:VRel L β (pz L.bad v) y):y=v:=by
 unfold pz at h
 generalize hx : Value.func (.method "") #[.iface L.bad v] #[] = x at h
 cases h with
 | poison h=>
  unfold pz at hx;injection hx with _ h2 _
  injection h2 with h2
  injection h2 with h2 _
  injection h2 with _ h2
  exact h2.symm
 | func=>injection hx with h1;cases h1
 | _=>cases hx
theorem int_inv {kd:IntKind} {n:Int} {y:Value} (h:VRel L β (.int kd n) y):y=.int kd n:=by
 generalize hx:Value.int kd n=x at h
 cases h with
 | poison h=>cases hx
 | int=>cases hx;rfl
 | _=>cases hx
theorem slice_inv {g o0 n c:Nat} {y:Value} (hn:0 < n) (h:VRel L β (.slice (some ⟨g,o0,none⟩) n c) y):∃ x,y=.slice (some ⟨x,o0,none⟩) n c∧β g=some x∧L.g≤g∧L.g≤x:=by
 generalize hx:Value.slice (some ⟨g,o0,none⟩) n c=x at h
 cases h with
 | poison h=>cases hx
 | @slice a b n' c' h=>
  injection hx with h1 h2 h3
  subst h1;subst h2;subst h3;cases b with
  | none=>exact h.elim
  | some b=>
   obtain ⟨h1,h2,h3,h4,h5⟩:=h;obtain ⟨bb,bo,bs⟩:=b;simp only at h1 h2 h3 h4 h5;subst h2;subst h3;exact ⟨bb,rfl,h1,h4,h5⟩
 | sliceZ=>injection hx with _ h2;omega
 | _=>cases hx
theorem Wk.mv (X:Cx P L) (hb:b.kind≠.early) {x:Operand} (ho:ops[i]?=some o) (hop:o.op=.move x∨o.op=.assign x) (hg:o.guard=none) {d:Option Tmp} (hd:o.dst=d) (hx:XOK L x)
 (h:∀ a v,Φ a v→Ψ (a.put d (a.eval x)) v) (hn:Wk P L main Stop A b rc (.inRegion ops rest :: k) Ψ):Wk P L main Stop A b rc (.inRegion ops (i :: rest) :: k) Φ:=by
 subst hd;intro γ ag a v w O hp k2 k3 k4 k5 k6 k7;have hwa:Region.wanted o (yielded ops a.tmps)=true:=by simp [Region.wanted,hg]
 have hr:∀ u,(execOp a.eval o).run P u=.ok (.value (a.eval x)) u:=fun u=>by
  unfold execOp;rcases hop with hop | hop<;>simp only [hop]<;>rfl
 have he:∀ u,(execOp a.eval o).events P u #[]=#[]:=fun u=>by
  unfold execOp;rcases hop with hop | hop<;>simp only [hop]<;>rfl
 refine Co.one rfl (fun u=>?_) (hn γ _ (a.put o.dst (a.eval x)) v w O (h _ _ hp) (by rw [put_defers,k2]) (by rw [put_defers,k3]) (k4.put _ (act_eval k4 hx)) k5 k6 k7);rw [stepG_value ho hwa hb (hr u),listed_none (he u)]
theorem run_go {f:FuncId} {as1:Array Operand} {ats:Array TypeId} (hop:o.op=.go { callee:=.value (.func f),args:=as1,argTypes:=ats }) (w:World):(execOp a.eval o).run P w=.ok (.spawn (dcall f (as1.map a.eval))) w∧(execOp a.eval o).events P w #[]=#[]:=by
 have ef:a.eval (.func f)=.func (.func f) #[] #[]:=rfl;constructor
 .unfold execOp;simp [hop,resolve,Deferred.ofValue,ef,dcall]
 .unfold execOp;simp [hop,resolve,Deferred.ofValue,ef]
def botF (P:Program):Frame:={ (default:Frame) with fn:=P.funcs.size,defers:=[],mode:=.panicking [goexitEntry] }
theorem stepG_born {f : FuncId} {fn : Func} {c : Code} {as1 : Array Value} (hf : P.funcs[f]? = some fn) (hname : (fn.name == "runtime.NumGoroutine") = false) (hbd : fn.body = some c) (w : World) :
 stepG P main (born P (dcall f as1)) w=.go (G ((baseD f).at { tmps:=as1++Array.replicate (fn.ntmps - as1.size) undef,defers:=[] } [.code c]) [botF P]) w:=by
 have h1 : ¬ fn.name = "runtime.NumGoroutine" := by simpa using hname
 rw [← enter_atD as1 hf hbd];simp [born,dcall,stepG,unwind,callDeferred,invoke,callFunc,hf,h1,hbd,GStep.after,seen_none,G,botF]
theorem quits_end {f:FuncId} {fn:Func} (hf:P.funcs[f]?=some fn) (hr:fn.results=#[]) (hd:a.defers=[]) (ops:Array Oper):QuitsIn P 4 (G ((baseD f).at a [.inRegion ops []]) [botF P]):=by
 obtain ⟨T,D⟩:=a;simp only at hd;subst hd;refine .inr ⟨rfl,_,fun w=>stepG_region_end,?_⟩;refine .inr ⟨rfl,_,fun w=>stepG_end,?_⟩;refine .inr ⟨rfl,G (botF P) [],fun w=>?_,?_⟩
 .simp [G,stepG,unwind,doReturn,results,Frame.at,baseD,botF,hf,hr,seen,GStep.after,goexitEntry]
 refine .inr ⟨rfl,{ G (botF P) [] with status:=.finished },fun w=>?_,rfl⟩;simp [G,stepG,unwind,botF,goexitEntry,Frame.catches]
 rfl
theorem Wk.send {ι:Type} {V:ι→Value→Nat→World→Prop} {c:Nat} {r:ι} {rs:List ι} {x y:Operand} (hb:b.kind≠.early) (ho:ops[i]?=some o) (hop:o.op=.send x y) (hg:o.guard=none) (hxk:XOK L x)
 (hx:∀ a v,Φ a v→a.eval x=pz L.bad (.chan (some c)))
 (h:∀ (γ:Bl) (ag a:Act) (v w:World) (O:Set_),Φ ag v→ag.defers=[]→a.defers=[]→VsRel L γ ag.tmps a.tmps→WRel L γ v w→Named O γ→Acc A.O A.β A.v A.w O γ v w→∃ bk,O bk∧V r (a.eval y) bk w ∧
  ∀ w2,Ry (fun z=>O z∧z≠bk) w w2→Co P false (SStop P c V rs) (fun z=>O z∧z≠bk) (G (b.at (a.put o.dst undef) (.inRegion ops rest :: k)) rc) w2) :
 Wk P L false (SStop P c V (r :: rs)) A b rc (.inRegion ops (i :: rest) :: k) Φ:=by
 intro γ ag a v w O hp k2 k3 k4 k5 k6 k7;have hwa:Region.wanted o (yielded ops a.tmps)=true:=by simp [Region.wanted,hg]
 have hxa:a.eval x=.chan (some c):=pz_inv (by have:=act_eval k4 hxk;rwa [hx _ _ hp] at this);refine .stop fun w1 hr=>?_;obtain ⟨bk,h1,h2,h3⟩:=h γ ag a v w1 O hp k2 k3 k4 (k5.ry k6 hr) k6 (k7.rely hr);refine ⟨rfl,G (b.at a (.inRegion ops (i :: rest) :: k)) rc,.tuple #[],a.eval y,bk,h1,h2,?_,fun w2 hr2=>?_⟩
 .rw [stepG_comm (cases:=#[scase c (a.eval y) (.tuple #[])]) (blocking:=true) (shape:=.send) (w':=w1) ho hwa hb (by simp [execOp,hop,hxa,scase])];have he:(execOp a.eval o).events P w1 #[]=#[]:=by
   unfold execOp;simp only [hop]
   rfl
  rw [listed_none he]
 .rw [served_G,ho];exact h3 w2 hr2
theorem Wk.close {ι:Type} {V:ι→Value→Nat→World→Prop} {c:Nat} {x:Operand} {ats:Array TypeId} {f:FuncId} {fn:Func} (ho:ops[i]?=some o) (hop:o.op=.call { callee:=.builtin .close,args:=#[x],argTypes:=ats }) (hg:o.guard=none) (hxk:XOK L x)
 (hx:∀ a v,Φ a v→a.eval x=pz L.bad (.chan (some c))) (hf:P.funcs[f]?=some fn) (hrs:fn.results=#[]) (hq:(P.funcs[f]?).any (·.norace)=false)
 (hmw:∀ a:Act,mayWake P (G ((baseD f).at a [.inRegion ops [i]]) [botF P])=true):Wk P L false (SStop P c V []) A (baseD f) [botF P] [.inRegion ops [i]] Φ:=by
 intro γ ag a v w O hp k2 k3 k4 k5 k6 k7;have hwa:Region.wanted o (yielded ops a.tmps)=true:=by simp [Region.wanted,hg]
 have hxa:a.eval x=.chan (some c):=pz_inv (by have:=act_eval k4 hxk;rwa [hx _ _ hp] at this);refine .stop fun w1 hr=>⟨rfl,hmw a,G ((baseD f).at (a.put o.dst (.tuple #[])) [.inRegion ops []]) [botF P],4,fun w2 s r tm hc=>?_,quits_end hf hrs (by rw [put_defers,k3]) ops⟩;rw [stepG_close ho hwa (by simp [baseD]) hop hxa hc hq]
 rfl
end
def goodV:Nat→Value→Bool
 | 0,_=>false
 | n+1,v=>match v with
  | .bool _ | .int _ _ | .string _ | .pointer none | .slice none _ _ | .map none | .chan none | .nilFunc | .nilIface=>true
  | .agg cs | .tuple cs=>cs.toList.all (goodV n)
  | _=>false
theorem goodV_ok {L:Lim} {β:Bl}:∀ {n:Nat} {v:Value},goodV n v=true→VRel L β v v
 | 0,v,h=>by cases h
 | n+1,v,h=>by
  have arr:∀ cs:Array Value,cs.toList.all (goodV n)=true→∀ (i:Nat) (v w:Value),cs[i]?=some v→cs[i]?=some w→VRel L β v w:=fun cs hc i v w h1 h2=>by
   rw [h1] at h2;cases h2;exact goodV_ok (List.all_eq_true.1 hc v (Array.mem_toList_iff.2 (Array.mem_of_getElem? h1)))
  cases v with
  | bool b=>exact .bool b
  | int k n=>exact .int k n
  | string s=>exact .string s
  | pointer a=>cases a with
   | none=>exact .pointer (a:=none) (b:=none) trivial
   | some a=>cases h
  | slice a n c=>cases a with
   | none=>exact .slice n c (a:=none) (b:=none) trivial
   | some a=>cases h
  | map r=>cases r with
   | none=>exact .map
   | some r=>cases h
  | chan r=>cases r with
   | none=>exact .chan0
   | some r=>cases h
  | nilFunc=>exact .nilFunc
  | nilIface=>exact .nilIface
  | agg cs=>exact .agg rfl (arr cs h)
  | tuple cs=>exact .tuple rfl (arr cs h)
  | _=>cases h
def xB (fnB:FuncId→Bool):Operand→Bool
 | .tmp _=>true
 | .const v=>goodV 5 v
 | .global _=>false
 | .func f=>fnB f
def slB (P:Program) (ts:Array TypeId) (i:Nat):Bool:=match ts[i]? with
 | some u=>match P.underlying u with
  | some (.slice _)=>true
  | _=>false
 | none=>false
def slZ (P:Program) (ts:Array TypeId) (i:Nat):Bool:=match ts[i]? with
 | some u=>match P.underlying u with
  | some (.slice e)=>decide (e < P.types.size)
  | _=>false
 | none=>false
def zeB (P:Program) (t:TypeId):Bool:=match P.underlying t with
 | some (.slice e)=>decide (e < P.types.size)
 | _=>true
def tB (P:Program) (t:TypeId):Bool:=match P.underlying t with
 | some (.int _) | some (.slice _) | some .bool=>true
 | _=>false
def intB (P:Program) (t:TypeId):Bool:=match P.underlying t with
 | some (.int _)=>true
 | _=>false
def strB (P:Program) (t:TypeId):Bool:=match P.underlying t with
 | some .string=>true
 | _=>false
def callB (P:Program) (fnB:FuncId→Bool) (c:Call):Bool:=
 c.args.toList.all (xB fnB) && match c.callee with
 | .value f=>xB fnB f
 | .invoke r _=>xB fnB r
 | .builtin .len=>slB P c.argTypes 0
 | .builtin .append=>slZ P c.argTypes 0 && slB P c.argTypes 1
 | .builtin .min=>true
 | .builtin .max=>true
 | .builtin .copy=>true
 | .builtin .clear=>slZ P c.argTypes 0
 | _=>false
def binB:BinOp→Bool
 | .add | .sub | .mul | .lss | .leq | .gtr | .geq | .eql | .neq | .shl | .shr | .quo | .rem | .and | .or | .xor | .andNot=>true
def sB (P:Program) (t:TypeId):Bool:=match P.underlying t with
 | some (.struct fs)=>match fs.toList with
  | [f]=>intB P f.type
  | _=>false
 | _=>false
def eqB:BinOp→Bool
 | .eql | .neq=>true
 | _=>false
def oB (fnB:FuncId→Bool) (o:Option Operand):Bool:=match o with
 | some y=>xB fnB y
 | none=>true
def opB (P:Program) (fnB:FuncId→Bool) (tyB:TypeId→Bool):Op→Bool
 | .move x | .assign x | .nilCheck x | .box _ x | .load _ x | .fieldAddr _ x _ | .extract x _ | .panic x=>xB fnB x
 | .pick c a b=>xB fnB c && xB fnB a && xB fnB b
 | .alloc t=>decide (t < P.types.size)
 | .build t ps=>decide (t < P.types.size) && ps.toList.all fun p=>xB fnB p.2
 | .buildSlice t _ ps=>zeB P t && ps.toList.all fun p=>xB fnB p.2
 | .store _ a x=>xB fnB a && xB fnB x
 | .binOp op t x y _=>xB fnB x && xB fnB y && (tB P t || (sB P t && eqB op)) && !P.eqGuardType P.depth t && binB op
 | .unOp op _ x=>xB fnB x && (match op with | .not | .neg=>true | _=>false)
 | .convert s d x=>xB fnB x && intB P s && intB P d
 | .makeInterface t x=>xB fnB x && tyB t
 | .makeFunc fn first captured=>(match fn with | .func f=>fnB f | _=>false) && first.toList.all (xB fnB) && captured.toList.all (xB fnB)
 | .makeSlice t x y=>xB fnB x && xB fnB y && zeB P t
 | .indexAddr _ x y=>xB fnB x && xB fnB y
 | .index t x y=>xB fnB x && xB fnB y && strB P t
 | .slice _ x lo hi mx=>xB fnB x && oB fnB lo && oB fnB hi && oB fnB mx
 | .typeAssert x _ u ok=>xB fnB x && ok && decide (u < P.types.size)
 | .call c=>callB P fnB c
 | _=>false
def codeB (P:Program) (fnB:FuncId→Bool) (tyB:TypeId→Bool):Code→Bool
 | .skip | .ret | .label _ | .exit _=>true
 | .seq a b=>codeB P fnB tyB a && codeB P fnB tyB b
 | .cond c a b=>xB fnB c && codeB P fnB tyB a && codeB P fnB tyB b
 | .block _ c | .loop c=>codeB P fnB tyB c
 | .region _ ops _=>ops.toList.all fun o=>opB P fnB tyB o.op
 | _=>false
section
variable {P:Program} {L:Lim} {fnB:FuncId→Bool} {tyB:TypeId→Bool}
theorem xB_ok (hf:∀ f,fnB f=true→L.fn f) {x:Operand} (h:xB fnB x=true):XOK L x:=by
 cases x with
 | tmp t=>trivial
 | const v=>exact fun β=>goodV_ok h
 | global g=>cases h
 | func f=>exact hf f h
theorem slB_ok {ts:Array TypeId} {i:Nat} (h:slB P ts i=true):SlT P ts i:=by
 unfold slB at h;cases hu:ts[i]? with
 | none=>rw [hu] at h;cases h
 | some u=>
  rw [hu] at h;dsimp only at h;split at h
  .rename_i e he;exact ⟨u,e,hu,he⟩
  .cases h
theorem slZ_ok {ts:Array TypeId} {i:Nat} (h:slZ P ts i=true):∃ u e,ts[i]?=some u∧P.underlying u=some (.slice e)∧e < P.types.size:=by
 unfold slZ at h;cases hu:ts[i]? with
 | none=>rw [hu] at h;cases h
 | some u=>
  rw [hu] at h;dsimp only at h;split at h
  .rename_i e he;exact ⟨u,e,rfl,he,of_decide_eq_true h⟩
  .cases h
theorem zeB_ok {t:TypeId} (h:zeB P t=true):ZE P t:=by
 intro e he;unfold zeB at h;rw [he] at h;exact of_decide_eq_true h
theorem tB_ok {t:TypeId} (h:tB P t=true):TOK P t:=by
 unfold tB at h;split at h
 .rename_i k hk;exact .inl ⟨k,hk⟩
 .rename_i e he;exact .inr (.inl ⟨e,he⟩)
 .rename_i hb;exact .inr (.inr hb)
 .cases h
theorem intB_ok {t:TypeId} (h:intB P t=true):∃ k,P.underlying t=some (.int k):=by
 unfold intB at h;split at h
 .rename_i k hk;exact ⟨k,hk⟩
 .cases h
theorem strB_ok {t:TypeId} (h:strB P t=true):P.underlying t=some .string:=by
 unfold strB at h;split at h
 .assumption
 .cases h
theorem sB_ok {t:TypeId} (h:sB P t=true):TOS P t:=by
 unfold sB at h;split at h
 .rename_i fs hfs
  split at h
  .rename_i f e
   obtain ⟨l⟩:=fs;simp only at e;subst e;exact ⟨f,hfs,intB_ok h⟩
  .cases h
 .cases h
theorem tsB_ok {t:TypeId} {op:BinOp} (h:(tB P t || (sB P t && eqB op))=true):TOK P t∨(TOS P t∧(op=.eql∨op=.neq)):=by
 rw [Bool.or_eq_true,Bool.and_eq_true] at h;rcases h with h | ⟨h,h2⟩
 .exact .inl (tB_ok h)
 .refine .inr ⟨sB_ok h,?_⟩;cases op<;>first | exact .inl rfl | exact .inr rfl | cases h2
theorem allX (hf:∀ f,fnB f=true→L.fn f) {xs:List Operand} (h:xs.all (xB fnB)=true):∀ x∈xs,XOK L x:=fun x hx=>xB_ok hf (List.all_eq_true.1 h x hx)
theorem callB_ok (hf:∀ f,fnB f=true→L.fn f) {c:Call} (h:callB P fnB c=true):CallOK P L c:=by
 unfold callB at h;rw [Bool.and_eq_true] at h;refine ⟨allX hf h.1,?_⟩;have h2:=h.2;obtain ⟨callee,args,ats⟩:=c;cases callee with
 | value f=>exact xB_ok hf h2
 | invoke r n=>exact xB_ok hf h2
 | builtin b=>
  cases b with
  | len=>exact slB_ok h2
  | append=>rw [Bool.and_eq_true] at h2;exact ⟨slZ_ok h2.1,slB_ok h2.2⟩
  | min=>trivial
  | max=>trivial
  | copy=>trivial
  | clear=>exact slZ_ok h2
  | _=>cases h2
theorem binB_ok (op:BinOp):BOK op∨op=.eql∨op=.neq∨BOK2 op:=by
 cases op<;>simp [BOK,BOK2]
theorem oB_ok (hf:∀ f,fnB f=true→L.fn f) {o:Option Operand} (h:oB fnB o=true):∀ y,o=some y→XOK L y:=fun y e=>by
 subst e;exact xB_ok hf h
theorem opB_ok (hf:∀ f,fnB f=true→L.fn f) (ht:∀ t,tyB t=true→L.ty t) {o:Op} (h:opB P fnB tyB o=true):OpOK P L o:=by
 unfold opB at h
 cases o<;>simp only [Bool.and_eq_true,decide_eq_true_eq,Bool.not_eq_true'] at h<;>first
  | exact xB_ok hf h
  | exact ⟨xB_ok hf h.1.1,xB_ok hf h.1.2,xB_ok hf h.2⟩
  | exact h
  | exact ⟨h.1,fun p hp=>xB_ok hf (List.all_eq_true.1 h.2 p hp)⟩
  | exact ⟨zeB_ok h.1,fun p hp=>xB_ok hf (List.all_eq_true.1 h.2 p hp)⟩
  | exact ⟨xB_ok hf h.1,xB_ok hf h.2⟩
  | (obtain ⟨⟨⟨⟨h1,h2⟩,h3⟩,h4⟩,h5⟩:=h;exact ⟨xB_ok hf h1,xB_ok hf h2,tsB_ok h3,h4,binB_ok _⟩)
  | exact ⟨xB_ok hf h.1,by obtain ⟨_,h2⟩:=h;split at h2<;>first | exact .inl rfl | exact .inr rfl | cases h2⟩
  | (obtain ⟨⟨h1,h2⟩,h3⟩:=h;obtain ⟨k,h2⟩:=intB_ok h2;obtain ⟨k',h3⟩:=intB_ok h3;exact ⟨xB_ok hf h1,k',k,h2,h3⟩)
  | exact ⟨xB_ok hf h.1,ht _ h.2⟩
  | (obtain ⟨⟨h1,h2⟩,h3⟩:=h;refine ⟨?_,allX hf h2,allX hf h3⟩;split at h1<;>first | exact ⟨_,rfl,hf _ h1⟩ | cases h1)
  | exact ⟨xB_ok hf h.1.1,xB_ok hf h.1.2,zeB_ok h.2⟩
  | exact ⟨⟨xB_ok hf h.1.1,xB_ok hf h.1.2⟩,strB_ok h.2⟩
  | exact ⟨xB_ok hf h.1.1.1,oB_ok hf h.1.1.2,oB_ok hf h.1.2,oB_ok hf h.2⟩
  | exact ⟨xB_ok hf h.1.1,h.1.2,h.2⟩
  | exact callB_ok hf h
  | cases h
theorem codeB_ok (hf:∀ f,fnB f=true→L.fn f) (ht:∀ t,tyB t=true→L.ty t):∀ {c:Code},codeB P fnB tyB c=true→CodeOK P L c
 | .skip,_ | .ret,_ | .label _,_ | .exit _,_=>trivial
 | .seq a b,h=>by
  unfold codeB at h;rw [Bool.and_eq_true] at h;exact ⟨codeB_ok hf ht h.1,codeB_ok hf ht h.2⟩
 | .cond c a b,h=>by
  unfold codeB at h;rw [Bool.and_eq_true,Bool.and_eq_true] at h;exact ⟨xB_ok hf h.1.1,codeB_ok hf ht h.1.2,codeB_ok hf ht h.2⟩
 | .block _ c,h=>codeB_ok (c:=c) hf ht h
 | .loop c,h=>codeB_ok (c:=c) hf ht h
 | .region _ ops _,h=>fun o ho=>opB_ok hf ht (List.all_eq_true.1 h o ho)
 | .scope _,h | .goto _,h | .rangeFunc ..,h | .refuse _,h=>by cases h
def fnOkB (P:Program) (fnB:FuncId→Bool) (tyB:TypeId→Bool) (k:FuncId):Bool:=match P.funcs[k]? with
 | some fn => (match fn.body with | some c => codeB P fnB tyB c | none => false) && !(fn.name == "runtime.NumGoroutine")
 | none=>false
def tmpB (P:Program) (k:FuncId):Bool:=match P.funcs[k]? with
 | some fn=>fn.results.toList.all fun r=>match r with | .tmp _=>true | _=>false
 | none=>true
theorem tmpB_ok {P:Program} {k:FuncId} (h:tmpB P k=true):∀ fn,P.funcs[k]?=some fn→TmpRes fn:=fun fn hf=>by
 unfold tmpB at h;rw [hf] at h;exact fun r hr=>by
  have:=List.all_eq_true.1 h r hr;cases r with
  | tmp t=>exact ⟨t,rfl⟩
  | cell a t=>cases this
theorem fnOkB_ok (hf : ∀ f, fnB f = true → L.fn f) (ht : ∀ t, tyB t = true → L.ty t) {k : FuncId} (h : fnOkB P fnB tyB k = true) : ∃ fn c, P.funcs[k]? = some fn ∧ fn.body = some c ∧ CodeOK P L c ∧ (fn.name == "runtime.NumGoroutine") = false := by
 unfold fnOkB at h;split at h
 .rename_i fn hfn
  simp only [Bool.and_eq_true,Bool.not_eq_true'] at h;obtain ⟨h1,h2⟩:=h;split at h1
  .rename_i c hc
   exact ⟨fn,c,hfn,hc,codeB_ok hf ht h1,h2⟩
  .cases h1
 .cases h
end

