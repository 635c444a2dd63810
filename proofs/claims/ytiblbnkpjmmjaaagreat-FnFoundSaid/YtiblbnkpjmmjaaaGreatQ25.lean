/- -/
import Derived.Test.YtiblbnkpjmmjaaaGreatQ24
set_option maxRecDepth 100000
set_option maxHeartbeats 16000000
set_option linter.all false
namespace Go.Proofs.YtiblbnkpjmmjaaaGreat
theorem x0q25 {p:Prop} (h:p:=by rw [k0];decide):p:=h
theorem x1q25 {p:Prop} (h:p:=by rw [h1.1];decide):p:=h
theorem x2q25 {p:Prop} (h:p:=by rw [h.1.1];decide):p:=h
open Go.Conc
set_option maxRecDepth 100000
noncomputable def fndAll (lex:Bool) (s:Sy):List (List Int)→Option (List Int)→Option (List Int)
 | [],f=>f
 | us :: rs,f=>fndAll lex s rs (fndN lex s us f)
noncomputable def allR (s:Sy):List (List Int):=lstR (muR (upI 0 s.ar.length)) (upI 0 s.ar.length)
noncomputable def ansF (lex:Bool) (s:Sy):Option (List Int):=if sysOk s=true then fndAll lex s (allR s) none else none
def ResF (B0:Nat) (o:Option (List Int)) (x:Value) (v:World):Prop:=match o with
 | none=>x=.tuple #[.slice none 0 0,.bool false]
 | some us=>∃ b n cp,x=.tuple #[.slice (some ⟨b,0,none⟩) n cp,.bool true]∧OwI v B0 (some ⟨b,0,none⟩) n cp us
def OutF (lex:Bool) (s:Sy) (v00:World) (x:Value) (v:World):Prop:=Hx v00 v∧ResF v00.heap.size (ansF lex s) x v
section
variable {v:World} {A B:Option Addr} {n c m d:Nat} {s:Sy} {T:TypeId}
def EndF (v00:World) (o:Option (List Int)) (a:Act) (v:World):Prop:=a.tmps.size=34∧Hx v00 v∧∃ y bb,a.tmps[4]?=some y∧a.tmps[5]?=some (.bool bb)∧ResF v00.heap.size o (.tuple #[y,.bool bb]) v
theorem EndF.ins {v00:World} {o:Option (List Int)}:Ins (EndF v00 o):=fun a v τ d h=>by
 cases o<;>exact h
theorem wFE {v00:World} {a:Act} {Z:Value} {fnd:Option (List Int)} (h:Rv T s v00 Z fnd a v) (hd:a.defers=[]):pFE.wp Tryz.prog (fun e a' v'=>(e=.normal∧EndF v00 fnd a' v')∨(e=.ret∧False)) a v:=by
 obtain ⟨⟨hsz,h1,hH,_⟩,h18,hf⟩:=h;obtain ⟨tm,df⟩:=a;simp only at hd hsz h1 h18;subst hd;obtain ⟨x0,x1,x2,x3,x4,x5,x6,x7,x8,x9,x10,x11,x12,x13,x14,x15,x16,x17,x18,x19,x20,x21,x22,x23,x24,x25,x26,x27,x28,x29,x30,x31,x32,x33,hTm⟩:=lit34 hsz;subst hTm;simp only [pFE,bodyF,Tryz.f63,Option.getD_some];have HH:=Zh hH;clear hH h1 h18;cases fnd with
 | some u0=>
  obtain ⟨b0,n0,cp0,h7,hO0⟩:=hf;simp at h7;subst h7;have HO0:=Zh hO0;clear hO0;have hnil:∀ w:World,(binOp .neq 27 (.slice (some ⟨b0,0,none⟩) n0 cp0) (.slice none 0 0)).run Tryz.prog w=.ok (.bool true) w:=fun w=>run_neq_slice_nil w _ _ (some _) n0 cp0 Tryz.underlying27;go_wp2;exact ⟨rfl,HH.out,_,_,rfl,rfl,b0,n0,cp0,rfl,HO0.out⟩
 | none=>
  simp [Fnd] at hf;subst hf;have hnil:∀ w:World,(binOp .neq 27 (.slice none 0 0) (.slice none 0 0)).run Tryz.prog w=.ok (.bool false) w:=fun w=>run_neq_slice_nil w _ _ none 0 0 Tryz.underlying27;go_wp2;exact ⟨rfl,HH.out,_,_,rfl,rfl,rfl⟩
end
theorem run_mk (a:Act) (w:World) (o:Oper) (hop:o.op=.makeChan 122 (.const (.int .i64 0))):(execOp a.eval o).run Tryz.prog w=.ok (.value (.chan (some w.heap.size))) { w with heap:=w.heap.push (.chan 0 #[] false 0 0 false) }∧(execOp a.eval o).events Tryz.prog w #[]=#[]:=by
 constructor
 .unfold execOp;simp only [hop];simp [go_sem,Act.eval,Instr.makeChan]
 .unfold execOp;simp only [hop];simp [go_sem,Act.eval,Instr.makeChan]
theorem run_rc (a:Act) (w:World) (o:Oper) (c:Nat) (hop:o.op=.recv 122 (.tmp 18) true) (hx:a.eval (.tmp 18)=.chan (some c)):(execOp a.eval o).run Tryz.prog w=.ok (.comm #[rcase c (.slice none 0 0)] true (.recv true)) w∧(execOp a.eval o).events Tryz.prog w #[]=#[]:=by
 simp only [Act.eval,Array.getD_eq_getD_getElem?] at hx;constructor
 .unfold execOp;simp only [hop];simp [go_sem,hx,rcase]
 .unfold execOp;simp only [hop];simp [go_sem,hx,rcase]
theorem run_fa (a:Act) (w:World) (o:Oper) (q:Nat) (hop:o.op=.fieldAddr 32 (.tmp 2) 0) (hx:a.eval (.tmp 2)=.pointer (some ⟨q,0,none⟩)):(execOp a.eval o).run Tryz.prog w=.ok (.value (.pointer (some ⟨q,0,none⟩))) w:=by
 simp only [Act.eval,Array.getD_eq_getD_getElem?] at hx;unfold execOp;simp only [hop];simp [go_sem,hx]
theorem run_fb (a:Act) (w:World) (o:Oper) (q:Nat) (hop:o.op=.fieldAddr 29 (.tmp 13) 0) (hx:a.eval (.tmp 13)=.pointer (some ⟨q,0,none⟩)):(execOp a.eval o).run Tryz.prog w=.ok (.value (.pointer (some ⟨q,0,none⟩))) w:=by
 simp only [Act.eval,Array.getD_eq_getD_getElem?] at hx;unfold execOp;simp only [hop];simp [go_sem,hx]
theorem run_ld (a:Act) (w:World) (o:Oper) (q n c:Nat) (A:Option Addr) (hop:o.op=.load 27 (.tmp 14)) (hx:a.eval (.tmp 14)=.pointer (some ⟨q,0,none⟩)) (h:w.cell? ⟨q,0,none⟩=some (.slice A n c)):(execOp a.eval o).run Tryz.prog w=.ok (.value (.slice A n c)) w:=by
 simp only [Act.eval,Array.getD_eq_getD_getElem?] at hx;unfold execOp;simp only [hop];simp [go_sem,hx,h]
theorem run_ln (a:Act) (w:World) (o:Oper) (n c:Nat) (A:Option Addr) (hop:o.op=.call { callee:=.builtin .len,args:=#[.tmp 15],argTypes:=#[27] }) (hx:a.eval (.tmp 15)=.slice A n c):(execOp a.eval o).run Tryz.prog w=.ok (.value (.int .i64 n)) w:=by
 simp only [Act.eval,Array.getD_eq_getD_getElem?] at hx;unfold execOp;simp only [hop];simp [go_sem,hx]
theorem run_ex (a:Act) (w:World) (o:Oper) (x y:Value) (hop:o.op=.extract (.tmp 19) 1) (hx:a.eval (.tmp 19)=.tuple #[x,y]):(execOp a.eval o).run Tryz.prog w=.ok (.value y) w:=by
 simp only [Act.eval,Array.getD_eq_getD_getElem?] at hx;unfold execOp;simp only [hop];simp [go_sem,hx]
section
variable {m:Nat} {A:An} {rc:List Frame} {s:Sy} {T:TypeId} {lex:Bool} {Post:Value→World→Prop} {K:Nat} {StA:Set_→Goroutine→World→Prop}
theorem bN:(base 63).kind=.normal:=rfl
theorem bNe:(base 63).kind≠.early:=by simp [base]
theorem bFn:∃ f,Tryz.prog.funcs[(base 63).fn]?=some f:=⟨_,Tryz.func63⟩
theorem okF0:CodeOK Tryz.prog (LM m) pF0:=codeB_ok (fun _ h=>h) (fun _ h=>h) Zk
theorem okF1:CodeOK Tryz.prog (LM m) pF1:=codeB_ok (fun _ h=>h) (fun _ h=>h) Zk
theorem okL8:CodeOK Tryz.prog (LM m) pL8:=codeB_ok (fun _ h=>h) (fun _ h=>h) Zk
theorem okFE:CodeOK Tryz.prog (LM m) pFE:=codeB_ok (fun _ h=>h) (fun _ h=>h) Zk
theorem Ins.f:Ins (fun _ _=>False):=fun _ _ _ _ h=>h
theorem WkR.no {P:Program} {L:Lim} {main:Bool} {Stop:Set_→Goroutine→World→Prop} {A:An} {b:Frame} {rc:List Frame}:WkR P L main Stop A b rc (fun _ _=>False):=fun _ _ _ _ _ _ _ h=>h.elim
theorem Fp.put {v00:World} {a:Act} {v:World} {t:Nat} {x:Value} (h:Fp T s v00 a v) (h1:t≠1) (h2:t≠2):Fp T s v00 (a.put (some t) x) v:=by
 obtain ⟨k0,k1,k2,q,A,n,c,B,m,d,k3,k4⟩:=h;exact ⟨by rw [put_size,k0],by rw [put_get,if_neg h1,k1],k2,q,A,n,c,B,m,d,by rw [put_get,if_neg h2,k3],k4⟩
theorem Fp.hx {v00:World} {a:Act} {v v':World} (h:Fp T s v00 a v) (hH:Hx v v'):Fp T s v00 a v':=by
 obtain ⟨k0,k1,k2,q,A,n,c,B,m,d,k3,k4,k5,k6,k7⟩:=h;have hE:=hH.to;exact ⟨k0,k1,k2.trans hH,q,A,n,c,B,m,d,k3,Ext.keep hE k4,Ext.keep hE k5,RI.ext (w:={ v' with heap:=v.heap }) k6 hE,RR.ext (w:={ v' with heap:=v.heap }) k7 hE⟩
theorem Rv.put {v00:World} {a:Act} {v:World} {t:Nat} {x Z:Value} {fnd:Option (List Int)} (h:Rv T s v00 Z fnd a v) (h1:t≠1) (h2:t≠2) (h7:t≠7) (h18:t≠18):Rv T s v00 Z fnd (a.put (some t) x) v:=by
 obtain ⟨k0,k1,k2⟩:=h;refine ⟨k0.put h1 h2,by rw [put_get,if_neg h18,k1],?_⟩;cases fnd with
 | none=>
  have k2:a.tmps[7]?=_:=k2;show (a.put (some t) x).tmps[7]?=_;rw [put_get,if_neg h7,k2]
 | some us=>
  obtain ⟨b,n,cp,q1,q2⟩:=k2;exact ⟨b,n,cp,by rw [put_get,if_neg h7,q1],q2⟩
theorem Rv.hx {v00:World} {a:Act} {v v':World} {Z:Value} {fnd:Option (List Int)} (h:Rv T s v00 Z fnd a v) (hH:Hx v v'):Rv T s v00 Z fnd a v':=by
 obtain ⟨k0,k1,k2⟩:=h;refine ⟨k0.hx hH,k1,?_⟩;cases fnd with
 | none=>exact k2
 | some us=>
  obtain ⟨b,n,cp,q1,q2⟩:=k2;exact ⟨b,n,cp,q1,OwI.ext (w:={ v' with heap:=v.heap }) q2 hH.to⟩
section
variable {ch:Nat} {v00:World} {k0 k1:List Item} {fnd:Option (List Int)} {Stop:Set_→Goroutine→World→Prop}
theorem fp_recd {more:Bool} {y:Value} {ops:Array Oper} {i:Nat} {o:Oper} (ho:ops[1]?=some o) (hop:o.op=.extract (.tmp 19) 1) (hd:o.dst=some 20) (hg:o.guard=none) {Φ0:Act→World→Prop} (iΦ:Ins Φ0)
 (hΦ:∀ a v,Φ0 a v→Fp T s v00 a v∧a.tmps[19]?=some (.tuple #[y,.bool more])) (hp:∀ (a:Act) (v:World) (t:Nat) (x:Value),19 < t→Φ0 a v→Φ0 (a.put (some t) x) v)
 (hT:more=true→Wk Tryz.prog (LM m) true Stop A (base 63) rc (.code (.block 1 pL8) :: k0) Φ0)
 (hF:more=false→exitTo 0 k0=some k1∧Wk Tryz.prog (LM m) true Stop A (base 63) rc k1 Φ0) :
 Wk Tryz.prog (LM m) true Stop A (base 63) rc (.inRegion ops [1] :: .code (.seq (.cond (.tmp 20) .skip (.exit 0)) (.block 1 pL8)) :: k0) Φ0:=by
 refine Wk.op (X m) bNe ho (d:=some 20) hd (by rw [hop];exact (xtmp (m:=m) 19)) iΦ (Ψ:=fun a v=>Φ0 a v∧a.tmps[20]?=some (.bool more)) (fun a v h _=>⟨by simp [Region.wanted,hg],.inl ⟨_,_,run_ex a v o y (.bool more) hop (eval_tmp (hΦ a v h).2),hp a v 20 _ (by decide) h,by rw [put_get,if_pos rfl,if_pos (by rw [(hΦ a v h).1.1];decide)]⟩⟩) ?_;refine Wk.regionEnd (Wk.seq (Wk.cond (xtmp 20) (fun a v h=>⟨more,eval_tmp h.2⟩) ?_ ?_))
 .cases more with
  | true=>exact Wk.skip ((hT rfl).mono fun a v h=>h.1.1)
  | false=>
   intro γ ag a v w O hp;have:=eval_tmp hp.1.2;rw [hp.2] at this;cases this
 .cases more with
  | false=>
   obtain ⟨h1,h2⟩:=hF rfl;exact Wk.exit h1 (h2.mono fun a v h=>h.1.1)
  | true=>
   intro γ ag a v w O hp;have:=eval_tmp hp.1.2;rw [hp.2] at this;cases this
theorem fp_nil (hex:exitTo 0 k0=some k1) (hend:Wk Tryz.prog (LM m) true StA A (base 63) rc k1 (Rv T s v00 (pz (LM m).bad (.chan (some ch))) fnd)) :
 Wk Tryz.prog (LM m) true (MStop Tryz.prog ch (.slice none 0 0) VI (Co Tryz.prog true StA) []) A (base 63) rc (.code pL7 :: .code (.seq (.cond (.tmp 20) .skip (.exit 0)) (.block 1 pL8)) :: k0) (Rv T s v00 (pz (LM m).bad (.chan (some ch))) fnd):=by
 generalize hq:pL8=q8
 simp only [pL7,pFL,bodyF,Tryz.f63,Option.getD_some];refine Wk.reg (l:=[0,1]) rfl (Wk.recvNil (x:=.tmp 18) bNe rfl rfl (d:=some 19) rfl (fun a w h=>run_rc a w _ ch rfl h) (xtmp 18) (fun a v h=>eval_tmp h.2.1) ?_);subst hq;refine Wk.mono (Ψ:=fun a v=>Rv T s v00 (pz (LM m).bad (.chan (some ch))) fnd a v∧a.tmps[19]?=some (.tuple #[.slice none 0 0,.bool false])) ?_ (fun a v h=>?_)
 .exact fp_recd (more:=false) (y:=.slice none 0 0) (i:=1) rfl rfl rfl rfl (fun a v τ d h=>⟨Rv.ins _ _ _ _ h.1,h.2⟩) (fun a v h=>⟨h.1.1,h.2⟩) (fun a v t x ht h=>⟨h.1.put Zo Zo Zo Zo,by rw [put_get,if_neg Zo,h.2]⟩) (fun h=>by cases h) (fun _=>⟨hex,hend.mono fun a v h=>h.1⟩)
 .obtain ⟨a0,h0,rfl⟩:=h;exact ⟨h0.put (by decide) (by decide) (by decide) (by decide),by rw [put_get,if_pos rfl,if_pos (by rw [h0.1.1];decide)]⟩
theorem fp_cons (hT:(if lex=true then 95 else 96)=T) {us:List Int} {rs:List (List Int)} {Next:Set_→Goroutine→World→Prop} (hSo:Offs (MStop Tryz.prog ch (.slice none 0 0) VI Next rs))
 (hend:Wk Tryz.prog (LM m) true (MStop Tryz.prog ch (.slice none 0 0) VI Next rs) A (base 63) rc k0 (Rv T s v00 (pz (LM m).bad (.chan (some ch))) (fndN lex s us fnd))) :
 Wk Tryz.prog (LM m) true (MStop Tryz.prog ch (.slice none 0 0) VI Next (us :: rs)) A (base 63) rc (.code pL7 :: .code (.seq (.cond (.tmp 20) .skip (.exit 0)) (.block 1 pL8)) :: k0) (Rv T s v00 (pz (LM m).bad (.chan (some ch))) fnd):=by
 generalize hq:pL8=q8
 simp only [pL7,pFL,bodyF,Tryz.f63,Option.getD_some];refine Wk.reg (l:=[0,1]) rfl (Wk.recvCons (x:=.tmp 18) bNe rfl rfl rfl (d:=some 19) rfl (fun a w h=>run_rc a w _ ch rfl h) (xtmp 18) (fun a v h=>eval_tmp h.2.1) ?_);subst hq;refine Wk.mono (Ψ:=fun a v=>∃ (k cp:Nat),Rv T s v00 (pz (LM m).bad (.chan (some ch))) fnd a v∧a.tmps[19]?=some (.tuple #[.slice (some ⟨k,0,none⟩) us.length cp,.bool true])∧OwI v v00.heap.size (some ⟨k,0,none⟩) us.length cp us) ?_ (fun a v h=>?_)
 .refine Wk.ex fun k=>Wk.ex fun cp=>?_;refine fp_recd (more:=true) (y:=.slice (some ⟨k,0,none⟩) us.length cp) (k1:=[]) (i:=1) rfl rfl rfl rfl (fun a v τ d h=>⟨Rv.ins _ _ _ _ h.1,h.2⟩) (fun a v h=>⟨h.1.1,h.2.1⟩) (fun a v t x ht h=>⟨h.1.put Zo Zo Zo Zo,by rw [put_get,if_neg Zo,h.2.1],h.2.2⟩) (fun _=>Wk.block ?_) (fun h=>by cases h);exact Wk.code (X m) hSo okL8 bN bFn (fun a v τ d h=>⟨Rv.ins _ _ _ _ h.1,h.2⟩) Rv.ins Ins.f (fun a v h hd=>wL8 hT h.1 hd h.2.1 h.2.2) (Wk.inBlock hend) WkR.no
 .obtain ⟨a0,v0,cp,h0,hH,hO,rfl⟩:=h;exact ⟨v0.heap.size,cp,(h0.hx hH).put (by decide) (by decide) (by decide) (by decide),by rw [put_get,if_pos rfl,if_pos (by rw [h0.1.1];decide)],hO.lower h0.1.2.2.1.1⟩
theorem offs_m {c:Nat} {z:Value} {V:List Int→Value→Nat→World→Prop} {Fin:Set_→Goroutine→World→Prop}:∀ rs:List (List Int),Offs (MStop Tryz.prog c z V Fin rs)
 | []=>fun O g w of h=>h
 | _ :: _=>fun O g w of h=>h
theorem fp_loop (hT:(if lex=true then 95 else 96)=T) {fin:Option (List Int)} (hend:Wk Tryz.prog (LM m) true StA A (base 63) rc [.code (.seq pFE .ret)] (Rv T s v00 (pz (LM m).bad (.chan (some ch))) fin)) :
 ∀ (rs:List (List Int)) (fnd:Option (List Int)),fndAll lex s rs fnd=fin→Wk Tryz.prog (LM m) true (MStop Tryz.prog ch (.slice none 0 0) VI (Co Tryz.prog true StA) rs) A (base 63) rc [.code pFL,.inLoop pFL,.inBlock 0,.code (.seq pFE .ret)] (Rv T s v00 (pz (LM m).bad (.chan (some ch))) fnd):=by
 intro rs
 induction rs with
 | nil=>
  intro fnd hf;have:=Wk.seq (fp_nil (fnd:=fnd) (k0:=[.inLoop pFL,.inBlock 0,.code (.seq pFE .ret)]) (k1:=[.code (.seq pFE .ret)]) rfl (by have hf:fnd=fin:=hf;rw [hf];exact hend))
  rwa [← pFL_eq] at this
 | cons us rs ih=>
  intro fnd hf;have:=Wk.seq (fp_cons (fnd:=fnd) (k0:=[.inLoop pFL,.inBlock 0,.code (.seq pFE .ret)]) hT (offs_m rs) (Wk.inLoop (ih _ hf)))
  rwa [← pFL_eq] at this
end
end
set_option maxRecDepth 100000
section
variable {m:Nat} {A:An} {s:Sy} {T:TypeId} {lex:Bool} {Post:Value→World→Prop} {K:Nat} {StA:Set_→Goroutine→World→Prop} {c:Frame} {cs:List Frame}
def NextF (m:Nat) (A:An) (lex:Bool) (s:Sy) (StA:Set_→Goroutine→World→Prop) (c:Frame) (cs:List Frame):Prop:=
 ∀ γ x y v' w' O',OutF lex s A.v x v'→VRel (LM m) γ x y→WRel (LM m) γ v' w'→Named O' γ→Acc A.O A.β A.v A.w O' γ v' w'→Co Tryz.prog true StA O' (G (c.finish y) cs) w'
theorem tres_F:TmpRes Tryz.f63:=tmpB_ok (P:=Tryz.prog) (k:=63) Zk _ Tryz.func63
theorem leaveF {a:Act} {y:Value} {bb:Bool} (h4:a.tmps[4]?=some y) (h5:a.tmps[5]?=some (.bool bb)) (u:World):(results Tryz.f63 a.tmps).run Tryz.prog u=.ok (.tuple #[y,.bool bb]) u:=by
 rw [results_tmp2 (fn:=Tryz.f63) (t:=4) (u:=5) rfl];simp [h4,h5]
theorem fp_end (hSo:Offs StA) (next:NextF m A lex s StA c cs) {Z:Value} (hok:sysOk s=true):Wk Tryz.prog (LM m) true StA A (base 63) (c :: cs) [.code (.seq pFE .ret)] (Rv T s A.v Z (fndAll lex s (allR s) none)):=by
 refine Wk.seq (Wk.code (X m) hSo okFE bN bFn Rv.ins EndF.ins Ins.f (fun a v h hd=>wFE h hd) (Wk.ret ?_) WkR.no);refine WkR.leave bN Tryz.func63 tres_F (R:=OutF lex s A.v) (fun a v h=>?_) next
 obtain ⟨h0,hH,y,bb,h4,h5,hr⟩:=h;exact ⟨_,leaveF h4 h5,hH,by unfold ansF;rw [if_pos hok];exact hr⟩
theorem fp_early (next:NextF m A lex s StA c cs) (hmono:∀ O g w,StA O g w→ScrS Tryz.prog Post K O g w):WkR Tryz.prog (LM m) true (ScrS Tryz.prog Post K) A (base 63) (c :: cs)
 (fun a' v'=>a'.tmps.size=34∧a'.tmps[4]?=some (.slice none 0 0)∧a'.tmps[5]?=some (.bool false)∧sysOk s=false∧Hx A.v v'):=by
 refine WkR.leave bN Tryz.func63 tres_F (R:=OutF lex s A.v) (fun a v h=>?_) (fun γ x y v' w' O' h1 h2 h3 h4 h5=>(next γ x y v' w' O' h1 h2 h3 h4 h5).mono hmono);obtain ⟨h0,h4,h5,hs,hH⟩:=h;exact ⟨_,leaveF h4 h5,hH,by unfold ansF;rw [hs];rfl⟩
theorem fp_wk (hT:(if lex=true then 95 else 96)=T) (hSo:Offs StA) (hoS:Offs (ScrS Tryz.prog Post K)) (hK:Script_ Tryz.prog Post K=Co Tryz.prog true StA) (hmono:∀ O g w,StA O g w→ScrS Tryz.prog Post K O g w) (next:NextF m A lex s StA c cs) :
 Wk Tryz.prog (LM m) true (ScrS Tryz.prog Post K) A (base 63) (c :: cs) [.code bodyF] (fun a v=>∃ A' n cp B m' d,a=lit2 (.agg #[.slice A' n cp,.slice B m' d]) (.iface T (.agg #[]))∧RI v A' n s.ar∧RR true v B m' s.rs∧Hx A.v v):=by
 rw [bodyF_eq];refine Wk.seq (Wk.code (X m) hoS okF0 bN bFn (Ψ:=Fp T s A.v) (Ρ:=fun _ _=>False) (fun a v τ d h=>h) Fp.ins Ins.f (fun a v h hd=>?_) ?_ WkR.no)
 .obtain ⟨A',n,cp,B,m',d,rfl,h1,h2,h3⟩:=h;exact wF0 h3 h1 h2
 refine Wk.seq (Wk.code (X m) hoS okF1 bN bFn (Φ:=Fp T s A.v) (Ψ:=fun a v=>Fp T s A.v a v∧sysOk s=true) Fp.ins (fun a v τ d h=>h) (fun a v τ d h=>h) (fun a v h hd=>wF1 h hd) ?_ (fp_early next hmono));by_cases hok:sysOk s=true
 case neg=>exact fun γ ag a v w O hp=>absurd hp.2 hok
 have hlen:1≤s.ar.length∧s.ar.length≤8:=⟨(sysOk_iff.1 hok).1.1,(sysOk_iff.1 hok).1.2.1⟩;refine Wk.mono (Ψ:=Fp T s A.v) ?_ fun a v h=>h.1;have hrest:∀ ch,Wk Tryz.prog (LM m) true (AtGo_ Tryz.prog ch (Script_ Tryz.prog Post K)) A (base 63) (c :: cs) [.code (.seq pF4 (.seq pF5 (.seq (.seq pF6 (.block 0 (.loop pFL))) (.seq pFE .ret))))] (fun a v=>Fp T s A.v a v∧a.tmps[6]?=some (pz (LM m).bad (.chan (some ch)))):=by
  intro ch;have hlp:=fp_loop hT (fp_end (T:=T) (Z:=pz (LM m).bad (.chan (some ch))) hSo next hok) (allR s) none rfl
  generalize pFL=LL at hlp ⊢
  generalize pFE=EE at hlp ⊢
  rw [hK];simp only [pF4,pF5,pF6,bodyF,Tryz.f63,Option.getD_some];refine Wk.seq (Wk.reg (l:=[0,1,2,3,4,5]) rfl ?_);refine Wk.op (X m) bNe rfl (d:=some 13) rfl (xtmp (m:=m) 2) (fun a v τ d h=>h) (Ψ:=fun a v=>Fp T s A.v a v∧a.tmps[6]?=some (pz (LM m).bad (.chan (some ch)))∧∃ q A' cp,a.tmps[13]?=some (.pointer (some ⟨q,0,none⟩))∧v.cell? ⟨q,0,none⟩=some (.slice A' s.ar.length cp)) (fun a v h _=>?_) ?_
  .obtain ⟨h1,h6⟩:=h;obtain ⟨k0,k1,k2,q,A',n,cp,B,m',d,k3,k4,k5,k6,k7⟩:=id h1;have hn:n=s.ar.length:=k6.1.1.symm;subst hn;exact ⟨Zr,.inl ⟨_,_,run_fa a v _ q rfl (eval_tmp k3),h1.put (by decide) (by decide),by rw [put_get,if_neg (by decide),h6],q,A',cp,by rw [put_get,if_pos rfl,if_pos x0q25],k4⟩⟩
  refine Wk.op (X m) bNe rfl (d:=some 14) rfl (xtmp (m:=m) 13) (fun a v τ d h=>h) (Ψ:=fun a v=>Fp T s A.v a v∧a.tmps[6]?=some (pz (LM m).bad (.chan (some ch)))∧∃ q A' cp,a.tmps[14]?=some (.pointer (some ⟨q,0,none⟩))∧v.cell? ⟨q,0,none⟩=some (.slice A' s.ar.length cp)) (fun a v h _=>?_) ?_
  .obtain ⟨h1,h6,q,A',cp,k3,k4⟩:=h;exact ⟨Zr,.inl ⟨_,_,run_fb a v _ q rfl (eval_tmp k3),h1.put (by decide) (by decide),by rw [put_get,if_neg (by decide),h6],q,A',cp,by rw [put_get,if_pos rfl,if_pos x1q25],k4⟩⟩
  refine Wk.op (X m) bNe rfl (d:=some 15) rfl (xtmp (m:=m) 14) (fun a v τ d h=>h) (Ψ:=fun a v=>Fp T s A.v a v∧a.tmps[6]?=some (pz (LM m).bad (.chan (some ch)))∧∃ A' cp,a.tmps[15]?=some (.slice A' s.ar.length cp)) (fun a v h _=>?_) ?_
  .obtain ⟨h1,h6,q,A',cp,k3,k4⟩:=h;exact ⟨Zr,.inl ⟨_,_,run_ld a v _ q _ _ _ rfl (eval_tmp k3) k4,h1.put (by decide) (by decide),by rw [put_get,if_neg (by decide),h6],A',cp,by rw [put_get,if_pos rfl,if_pos x1q25]⟩⟩
  refine Wk.op (X m) bNe rfl (d:=some 16) rfl (opB_ok (fun _ h=>h) (fun _ h=>h) Zk) (fun a v τ d h=>h) (Ψ:=fun a v=>Fp T s A.v a v∧a.tmps[6]?=some (pz (LM m).bad (.chan (some ch)))∧a.tmps[16]?=some (.int .i64 s.ar.length)) (fun a v h _=>?_) ?_
  .obtain ⟨h1,h6,A',cp,k3⟩:=h;exact ⟨Zr,.inl ⟨_,_,run_ln a v _ _ _ _ rfl (eval_tmp k3),h1.put (by decide) (by decide),by rw [put_get,if_neg (by decide),h6],by rw [put_get,if_pos rfl,if_pos x1q25]⟩⟩
  refine Wk.mv (X m) bNe rfl (.inl rfl) rfl (d:=some 17) rfl (xtmp 6) (Ψ:=fun a v=>(Fp T s A.v a v∧a.tmps[6]?=some (pz (LM m).bad (.chan (some ch)))∧a.tmps[16]?=some (.int .i64 s.ar.length))∧a.tmps[17]?=some (pz (LM m).bad (.chan (some ch)))) (fun a v h=>?_) ?_
  .obtain ⟨h1,h6,k3⟩:=h;exact ⟨⟨h1.put (by decide) (by decide),by rw [put_get,if_neg (by decide),h6],by rw [put_get,if_neg (by decide),k3]⟩,by rw [put_get,if_pos rfl,if_pos x1q25,eval_tmp h6]⟩
  refine Wk.go (z:=.slice none 0 0) (rs:=allR s) bNe VI_ok rfl rfl rfl rfl (vals:=#[.int .i64 (s.ar.length:Int),.chan (some ch)]) (fun γ ag a v h hv=>?_) (fun w=>sender hlen.1 hlen.2 w) ?_
  .have e1:=act_eval hv (xtmp (m:=m) 16);have e2:=act_eval hv (xtmp (m:=m) 17);rw [eval_tmp h.1.2.2] at e1;rw [eval_tmp h.2] at e2;have e1:=int_inv e1;have e2:=pz_inv e2;simp only [List.map_toArray,List.map_cons,List.map_nil];rw [e1,e2]
  refine Wk.regionEnd (Wk.seq (Wk.reg (l:=[0]) rfl ?_));refine Wk.mv (X m) bNe rfl (.inr rfl) rfl (d:=some 7) rfl (x:=.const (.slice none 0 0)) (fun β=>.slice _ _ trivial) (Ψ:=fun a v=>Fp T s A.v a v∧a.tmps[6]?=some (pz (LM m).bad (.chan (some ch)))∧a.tmps[7]?=some (.slice none 0 0)) (fun a v h=>?_) ?_
  .obtain ⟨⟨h1,h6,_⟩,_⟩:=h;exact ⟨h1.put (by decide) (by decide),by rw [put_get,if_neg (by decide),h6],by rw [put_get,if_pos rfl,if_pos x1q25];rfl⟩
  refine Wk.regionEnd (Wk.seq (Wk.seq (Wk.reg (l:=[0]) rfl ?_)));refine Wk.mv (X m) bNe rfl (.inl rfl) rfl (d:=some 18) rfl (xtmp 6) (Ψ:=Rv T s A.v (pz (LM m).bad (.chan (some ch))) none) (fun a v h=>?_) ?_
  .obtain ⟨h1,h6,h7⟩:=h;exact ⟨h1.put (by decide) (by decide),by rw [put_get,if_pos rfl,if_pos x1q25,eval_tmp h6],by show (a.put (some 18) _).tmps[7]?=_;rw [put_get,if_neg (by decide),h7]⟩
  exact Wk.regionEnd (Wk.block (Wk.loop hlp))
 generalize Code.seq pF4 (.seq pF5 (.seq (.seq pF6 (.block 0 (.loop pFL))) (.seq pFE .ret)))=RR at hrest ⊢
 simp only [pF3,bodyF,Tryz.f63,Option.getD_some];refine Wk.seq (Wk.reg (l:=[0,1]) rfl (Wk.mkChan bNe rfl rfl rfl (d:=some 12) rfl (fun a w=>run_mk a w _ rfl) fun ch=>?_));refine Wk.mv (X m) bNe rfl (.inr rfl) rfl (d:=some 6) rfl (xtmp 12) (Ψ:=fun a v=>Fp T s A.v a v∧a.tmps[6]?=some (pz (LM m).bad (.chan (some ch)))) (fun a v h=>?_) (Wk.regionEnd (hrest ch));obtain ⟨a0,h0,rfl⟩:=h;exact ⟨(h0.put (by decide) (by decide)).put (by decide) (by decide),by rw [put_get,if_pos rfl,if_pos (by rw [put_size,h0.1];decide),eval_tmp (x:=pz (LM m).bad (.chan (some ch))) (by rw [put_get,if_pos rfl,if_pos (by rw [h0.1];decide)])]⟩
end
set_option maxRecDepth 100000
noncomputable def bodyQ:Code:=Tryz.f41.body.getD .skip
noncomputable def pQ0:Code:=match bodyQ with | .seq r _=>r | _=>.skip
noncomputable def pQ1:Code:=match bodyQ with | .seq _ r=>r | _=>.skip
theorem bodyQ_eq:bodyQ=.seq pQ0 pQ1:=by simp only [pQ0,pQ1,bodyQ,Tryz.f41,Option.getD_some]
def litQ (x0:Value):Act:={ tmps:=#[x0,undef,undef,undef,undef,undef,undef,undef,undef,undef],defers:=[] }
def Fq (s:Sy) (v00:World) (a:Act) (v:World):Prop:=
 a.tmps.size=10∧Hx v00 v∧∃ q A n c B m d,a.tmps[1]?=some (.pointer (some ⟨q,0,none⟩))∧v.cell? ⟨q,0,none⟩=some (.slice A n c)∧v.cell? ⟨q,1,none⟩=some (.slice B m d)∧RI v A n s.ar∧RR true v B m s.rs
theorem Fq.ins {s:Sy} {v00:World}:Ins (Fq s v00):=fun a v τ d h=>h
section
variable {v:World} {A B:Option Addr} {n c m d:Nat} {s:Sy} {T:TypeId}
theorem wQ0 {v00:World} (hH:Hx v00 v) (ha:RI v A n s.ar) (hb:RR true v B m s.rs):pQ0.wp Tryz.prog (fun e a' v'=>(e=.normal∧Fq s v00 a' v')∨(e=.ret∧False)) (litQ (.agg #[.slice A n c,.slice B m d])) v:=by
 simp only [pQ0,bodyQ,Tryz.f41,Option.getD_some,litQ];go_wp2;refine ⟨rfl,hH.trans (Hx.ext ((Ext.refl v).alloc _)),v.heap.size,A,n,c,B,m,d,rfl,by simp [go_sem],by simp [go_sem],ha.ext ((Ext.refl v).alloc _),hb.ext ((Ext.refl v).alloc _)⟩
end
theorem run_ld2 (a:Act) (w:World) (o:Oper) (q n c m d:Nat) (A B:Option Addr) (hop:o.op=.load 32 (.tmp 1)) (hx:a.eval (.tmp 1)=.pointer (some ⟨q,0,none⟩)) (h:w.cell? ⟨q,0,none⟩=some (.slice A n c)) (h1:w.cell? ⟨q,1,none⟩=some (.slice B m d)):(execOp a.eval o).run Tryz.prog w=.ok (.value (.agg #[.slice A n c,.slice B m d])) w:=by
 simp only [Act.eval,Array.getD_eq_getD_getElem?] at hx;unfold execOp;simp only [hop];simp [go_sem,hx,h,h1]
theorem run_bd (a:Act) (w:World) (o:Oper) (hop:o.op=.build 95 #[]):(execOp a.eval o).run Tryz.prog w=.ok (.value (.agg #[])) w:=by
 unfold execOp;simp only [hop];simp [go_sem]
theorem run_mi (a:Act) (w:World) (o:Oper) (hop:o.op=.makeInterface 95 (.tmp 5)) (hx:a.eval (.tmp 5)=.agg #[]):(execOp a.eval o).run Tryz.prog w=.ok (.value (.iface 95 (.agg #[]))) w:=by
 simp only [Act.eval,Array.getD_eq_getD_getElem?] at hx;unfold execOp;simp only [hop];simp [go_sem,hx]
theorem run_ex7 (a:Act) (w:World) (o:Oper) (x y:Value) (j t:Nat) (hop:o.op=.extract (.tmp t) j) (hx:a.eval (.tmp t)=.tuple #[x,y]) (hj:j < 2):(execOp a.eval o).run Tryz.prog w=.ok (.value (if j=0 then x else y)) w:=by
 simp only [Act.eval,Array.getD_eq_getD_getElem?] at hx;unfold execOp;simp only [hop];rcases j with _ | _ | j
 .simp [go_sem,hx]
 .simp [go_sem,hx]
 .omega
section
variable {m:Nat} {A:An} {s:Sy} {Post:Value→World→Prop} {K:Nat} {StA:Set_→Goroutine→World→Prop} {c:Frame} {cs:List Frame}
theorem bQ:(base 41).kind=.normal:=rfl
theorem bQe:(base 41).kind≠.early:=by simp [base]
theorem bQn:∃ f,Tryz.prog.funcs[(base 41).fn]?=some f:=⟨_,Tryz.func41⟩
theorem okQ0:CodeOK Tryz.prog (LM m) pQ0:=codeB_ok (fun _ h=>h) (fun _ h=>h) Zk
theorem tres_Q:TmpRes Tryz.f41:=tmpB_ok (P:=Tryz.prog) (k:=41) Zk _ Tryz.func41
theorem leaveQ {a:Act} {y z:Value} (h4:a.tmps[2]?=some y) (h5:a.tmps[3]?=some z) (u:World):(results Tryz.f41 a.tmps).run Tryz.prog u=.ok (.tuple #[y,z]) u:=by
 rw [results_tmp2 (fn:=Tryz.f41) (t:=2) (u:=3) rfl];simp [h4,h5]
theorem OutF.pair {lex:Bool} {s:Sy} {v00 v:World} {x:Value} (h:OutF lex s v00 x v):∃ y z,x=.tuple #[y,z]:=by
 obtain ⟨_,h⟩:=h;cases ho:ansF lex s with
 | none=>rw [ho] at h;exact ⟨_,_,h⟩
 | some us=>
  rw [ho] at h;obtain ⟨b,n,cp,h,_⟩:=h;exact ⟨_,_,h⟩
theorem OutF.up {lex:Bool} {s:Sy} {v00 v01 v:World} {x:Value} (h:OutF lex s v01 x v) (k:Hx v00 v01):OutF lex s v00 x v:=by
 obtain ⟨h0,h⟩:=h;refine ⟨k.trans h0,?_⟩;cases ho:ansF lex s with
 | none=>rw [ho] at h;exact h
 | some us=>
  rw [ho] at h;obtain ⟨b,n,cp,h,h2⟩:=h;exact ⟨b,n,cp,h,h2.lower k.1⟩
theorem OutF.ins {lex:Bool} {s:Sy} {v00:World} {x:Value} {v:World} {τ:Tp} {d:Nat} (h:OutF lex s v00 x v):OutF lex s v00 x (reW v τ d):=by
 obtain ⟨h0,h⟩:=h;refine ⟨h0,?_⟩;cases ho:ansF lex s with
 | none=>rw [ho] at h;exact h
 | some us=>rw [ho] at h;exact h
theorem fr_wk (hSo:Offs StA) (hoS:Offs (ScrS Tryz.prog Post K)) (hK:Script_ Tryz.prog Post K=Co Tryz.prog true StA) (hmono:∀ O g w,StA O g w→ScrS Tryz.prog Post K O g w) (next:NextF m A true s StA c cs) :
 Wk Tryz.prog (LM m) true (ScrS Tryz.prog Post K) A (base 41) (c :: cs) [.code bodyQ] (fun a v=>∃ A' n cp B m' d,a=litQ (.agg #[.slice A' n cp,.slice B m' d])∧RI v A' n s.ar∧RR true v B m' s.rs∧Hx A.v v):=by
 rw [bodyQ_eq];refine Wk.seq (Wk.code (X m) hoS okQ0 bQ bQn (Ψ:=Fq s A.v) (Ρ:=fun _ _=>False) (fun a v τ d h=>h) Fq.ins Ins.f (fun a v h hd=>?_) ?_ WkR.no)
 .obtain ⟨A',n,cp,B,m',d,rfl,h1,h2,h3⟩:=h;exact wQ0 h3 h1 h2
 simp only [pQ1,bodyQ,Tryz.f41,Option.getD_some];refine Wk.seq (Wk.reg (l:=[0,1,2,3,4,5,6,7]) rfl ?_);refine Wk.op (X m) bQe rfl (d:=some 4) rfl (xtmp (m:=m) 1) Fq.ins (Ψ:=fun a v=>a.tmps.size=10∧Hx A.v v∧∃ A' n cp B m' d,a.tmps[4]?=some (.agg #[.slice A' n cp,.slice B m' d])∧RI v A' n s.ar∧RR true v B m' s.rs) (fun a v h _=>?_) ?_
 .obtain ⟨k0,k2,q,A',n,cp,B,m',d,k3,k4,k5,k6,k7⟩:=h;exact ⟨Zr,.inl ⟨_,_,run_ld2 a v _ q _ _ _ _ _ _ rfl (eval_tmp k3) k4 k5,by rw [put_size,k0],k2,A',n,cp,B,m',d,by rw [put_get,if_pos rfl,if_pos x0q25],k6,k7⟩⟩
 refine Wk.op (X m) bQe rfl (d:=some 5) rfl (opB_ok (fun _ h=>h) (fun _ h=>h) Zk) (fun a v τ d h=>h) (Ψ:=fun a v=>(a.tmps.size=10∧Hx A.v v∧∃ A' n cp B m' d,a.tmps[4]?=some (.agg #[.slice A' n cp,.slice B m' d])∧RI v A' n s.ar∧RR true v B m' s.rs)∧a.tmps[5]?=some (.agg #[])) (fun a v h _=>?_) ?_
 .obtain ⟨k0,k2,A',n,cp,B,m',d,k3,k4⟩:=h;exact ⟨Zr,.inl ⟨_,_,run_bd a v _ rfl,⟨by rw [put_size,k0],k2,A',n,cp,B,m',d,by rw [put_get,if_neg (by decide),k3],k4⟩,by rw [put_get,if_pos rfl,if_pos x0q25]⟩⟩
 refine Wk.op (X m) bQe rfl (d:=some 6) rfl (opB_ok (fun _ h=>h) (fun _ h=>h) Zk) (fun a v τ d h=>h) (Ψ:=fun a v=>(a.tmps.size=10∧Hx A.v v∧∃ A' n cp B m' d,a.tmps[4]?=some (.agg #[.slice A' n cp,.slice B m' d])∧RI v A' n s.ar∧RR true v B m' s.rs)∧a.tmps[6]?=some (.iface 95 (.agg #[]))) (fun a v h _=>?_) ?_
 .obtain ⟨⟨k0,k2,A',n,cp,B,m',d,k3,k4⟩,k5⟩:=h;exact ⟨Zr,.inl ⟨_,_,run_mi a v _ rfl (eval_tmp k5),⟨by rw [put_size,k0],k2,A',n,cp,B,m',d,by rw [put_get,if_neg (by decide),k3],k4⟩,by rw [put_get,if_pos rfl,if_pos x0q25]⟩⟩
 intro γ ag a v w O hp k2 k3 k4 k5 k6 k7;obtain ⟨⟨h0,hH,A',n,cp,B,m',d,h4,hri,hrr⟩,h6⟩:=hp;refine co_into bQe rfl rfl rfl Tryz.func63 Zr (c:=bodyF) rfl (fun x hx=>by simp at hx;rcases hx with rfl | rfl<;>exact trivial) k2 k3 k4 k5 k6 ?_;refine (fp_wk (A:=⟨O,γ,v,w⟩) (s:=s) (lex:=true) rfl hSo hoS hK hmono ?_).mono fun a' v' h=>?_
 ·
  intro γ2 x y v2 w2 O2 hout hxy hW2 hN2 hA2;rw [Frame.finish_at];obtain ⟨x0,x1,rfl⟩:=hout.pair;refine Wk.use (Φ:=fun a v'=>a.tmps.size=10∧a.tmps[7]?=some (.tuple #[x0,x1])∧OutF true s A.v (.tuple #[x0,x1]) v') (ag:=ag.put (some 7) (.tuple #[x0,x1])) ⟨by rw [put_size,h0],by rw [put_get,if_pos rfl,if_pos (by rw [h0];decide)],hout.up hH⟩ (by rw [put_defers,k2]) (by rw [put_defers,k3]) ((k4.mono hA2.le).put _ hxy) hW2 hN2 (k7.trans hA2) ?_;clear hout hxy;have iO:Ins (fun (a:Act) (v':World)=>a.tmps.size=10∧a.tmps[7]?=some (.tuple #[x0,x1])∧OutF true s A.v (.tuple #[x0,x1]) v'):=fun a v τ d h=>⟨h.1,h.2.1,h.2.2.ins⟩;refine Wk.op (X m) bQe rfl (d:=some 8) rfl (xtmp (m:=m) 7) iO (Ψ:=fun a v'=>(a.tmps.size=10∧a.tmps[7]?=some (.tuple #[x0,x1])∧OutF true s A.v (.tuple #[x0,x1]) v')∧a.tmps[8]?=some x0) (fun a v h _=>⟨Zr,.inl ⟨_,_,run_ex7 a v _ x0 x1 0 7 rfl (eval_tmp h.2.1) (by decide),⟨by rw [put_size,h.1],by rw [put_get,if_neg (by decide),h.2.1],h.2.2⟩,by rw [put_get,if_pos rfl,if_pos (by rw [h.1];decide)];rfl⟩⟩) ?_;refine Wk.op (X m) bQe rfl (d:=some 9) rfl (xtmp (m:=m) 7) (fun a v τ d h=>⟨iO _ _ _ _ h.1,h.2⟩) (Ψ:=fun a v'=>(a.tmps.size=10∧OutF true s A.v (.tuple #[x0,x1]) v')∧a.tmps[8]?=some x0∧a.tmps[9]?=some x1) (fun a v h _=>⟨Zr,.inl ⟨_,_,run_ex7 a v _ x0 x1 1 7 rfl (eval_tmp h.1.2.1) (by decide),⟨by rw [put_size,h.1.1],h.1.2.2⟩,by rw [put_get,if_neg (by decide),h.2],by rw [put_get,if_pos rfl,if_pos x2q25];rfl⟩⟩) ?_;refine Wk.mv (X m) bQe rfl (.inr rfl) rfl (d:=some 2) rfl (xtmp 8) (Ψ:=fun a v'=>(a.tmps.size=10∧OutF true s A.v (.tuple #[x0,x1]) v')∧a.tmps[2]?=some x0∧a.tmps[9]?=some x1) (fun a v h=>⟨⟨by rw [put_size,h.1.1],h.1.2⟩,by rw [put_get,if_pos rfl,if_pos x2q25,eval_tmp h.2.1],by rw [put_get,if_neg (by decide),h.2.2]⟩) ?_;refine Wk.mv (X m) bQe rfl (.inr rfl) rfl (d:=some 3) rfl (xtmp 9) (Ψ:=fun a v'=>(a.tmps.size=10∧OutF true s A.v (.tuple #[x0,x1]) v')∧a.tmps[2]?=some x0∧a.tmps[3]?=some x1) (fun a v h=>⟨⟨by rw [put_size,h.1.1],h.1.2⟩,by rw [put_get,if_neg (by decide),h.2.1],by rw [put_get,if_pos rfl,if_pos x2q25,eval_tmp h.2.2]⟩) ?_;refine Wk.regionEnd (Wk.ret (WkR.leave bQ Tryz.func41 tres_Q (R:=OutF true s A.v) (fun a v h=>?_) next));exact ⟨_,leaveQ h.2.1 h.2.2,h.1.2⟩
 .obtain ⟨rfl,rfl⟩:=h;refine ⟨A',n,cp,B,m',d,?_,hri,hrr,Hx.refl _⟩;have e:(#[Operand.tmp 4,.tmp 6].map ag.eval)=#[.agg #[.slice A' n cp,.slice B m' d],.iface 95 (.agg #[])]:=by simp [eval_tmp h4,eval_tmp h6]
  show Act.mk (_++_) []=_;rw [e];simp [lit2,Tryz.ntmps63]
end
set_option maxRecDepth 100000
noncomputable def bodyQB:Code:=Tryz.f42.body.getD .skip
noncomputable def pQ0B:Code:=match bodyQB with | .seq r _=>r | _=>.skip
noncomputable def pQ1B:Code:=match bodyQB with | .seq _ r=>r | _=>.skip
theorem bodyQ_eqB:bodyQB=.seq pQ0B pQ1B:=by simp only [pQ0B,pQ1B,bodyQB,Tryz.f42,Option.getD_some]
section
variable {v:World} {A B:Option Addr} {n c m d:Nat} {s:Sy} {T:TypeId}
theorem wQ0B {v00:World} (hH:Hx v00 v) (ha:RI v A n s.ar) (hb:RR true v B m s.rs):pQ0B.wp Tryz.prog (fun e a' v'=>(e=.normal∧Fq s v00 a' v')∨(e=.ret∧False)) (litQ (.agg #[.slice A n c,.slice B m d])) v:=by
 simp only [pQ0B,bodyQB,Tryz.f42,Option.getD_some,litQ];go_wp2;refine ⟨rfl,hH.trans (Hx.ext ((Ext.refl v).alloc _)),v.heap.size,A,n,c,B,m,d,rfl,by simp [go_sem],by simp [go_sem],ha.ext ((Ext.refl v).alloc _),hb.ext ((Ext.refl v).alloc _)⟩
end
theorem run_bdB (a:Act) (w:World) (o:Oper) (hop:o.op=.build 96 #[]):(execOp a.eval o).run Tryz.prog w=.ok (.value (.agg #[])) w:=by
 unfold execOp;simp only [hop];simp [go_sem]
theorem run_miB (a:Act) (w:World) (o:Oper) (hop:o.op=.makeInterface 96 (.tmp 5)) (hx:a.eval (.tmp 5)=.agg #[]):(execOp a.eval o).run Tryz.prog w=.ok (.value (.iface 96 (.agg #[]))) w:=by
 simp only [Act.eval,Array.getD_eq_getD_getElem?] at hx;unfold execOp;simp only [hop];simp [go_sem,hx]
section
variable {m:Nat} {A:An} {s:Sy} {Post:Value→World→Prop} {K:Nat} {StA:Set_→Goroutine→World→Prop} {c:Frame} {cs:List Frame}
theorem bQB:(base 42).kind=.normal:=rfl
theorem bQeB:(base 42).kind≠.early:=by simp [base]
theorem bQnB:∃ f,Tryz.prog.funcs[(base 42).fn]?=some f:=⟨_,Tryz.func42⟩
theorem okQ0B:CodeOK Tryz.prog (LM m) pQ0B:=codeB_ok (fun _ h=>h) (fun _ h=>h) Zk
theorem tres_QB:TmpRes Tryz.f42:=tmpB_ok (P:=Tryz.prog) (k:=42) Zk _ Tryz.func42
theorem leaveQB {a:Act} {y z:Value} (h4:a.tmps[2]?=some y) (h5:a.tmps[3]?=some z) (u:World):(results Tryz.f42 a.tmps).run Tryz.prog u=.ok (.tuple #[y,z]) u:=by
 rw [results_tmp2 (fn:=Tryz.f42) (t:=2) (u:=3) rfl];simp [h4,h5]
theorem fr_wkB (hSo:Offs StA) (hoS:Offs (ScrS Tryz.prog Post K)) (hK:Script_ Tryz.prog Post K=Co Tryz.prog true StA) (hmono:∀ O g w,StA O g w→ScrS Tryz.prog Post K O g w) (next:NextF m A false s StA c cs) :
 Wk Tryz.prog (LM m) true (ScrS Tryz.prog Post K) A (base 42) (c :: cs) [.code bodyQB] (fun a v=>∃ A' n cp B m' d,a=litQ (.agg #[.slice A' n cp,.slice B m' d])∧RI v A' n s.ar∧RR true v B m' s.rs∧Hx A.v v):=by
 rw [bodyQ_eqB];refine Wk.seq (Wk.code (X m) hoS okQ0B bQB bQnB (Ψ:=Fq s A.v) (Ρ:=fun _ _=>False) (fun a v τ d h=>h) Fq.ins Ins.f (fun a v h hd=>?_) ?_ WkR.no)
 .obtain ⟨A',n,cp,B,m',d,rfl,h1,h2,h3⟩:=h;exact wQ0B h3 h1 h2
 simp only [pQ1B,bodyQB,Tryz.f42,Option.getD_some];refine Wk.seq (Wk.reg (l:=[0,1,2,3,4,5,6,7]) rfl ?_);refine Wk.op (X m) bQeB rfl (d:=some 4) rfl (xtmp (m:=m) 1) Fq.ins (Ψ:=fun a v=>a.tmps.size=10∧Hx A.v v∧∃ A' n cp B m' d,a.tmps[4]?=some (.agg #[.slice A' n cp,.slice B m' d])∧RI v A' n s.ar∧RR true v B m' s.rs) (fun a v h _=>?_) ?_
 .obtain ⟨k0,k2,q,A',n,cp,B,m',d,k3,k4,k5,k6,k7⟩:=h;exact ⟨Zr,.inl ⟨_,_,run_ld2 a v _ q _ _ _ _ _ _ rfl (eval_tmp k3) k4 k5,by rw [put_size,k0],k2,A',n,cp,B,m',d,by rw [put_get,if_pos rfl,if_pos x0q25],k6,k7⟩⟩
 refine Wk.op (X m) bQeB rfl (d:=some 5) rfl (opB_ok (fun _ h=>h) (fun _ h=>h) Zk) (fun a v τ d h=>h) (Ψ:=fun a v=>(a.tmps.size=10∧Hx A.v v∧∃ A' n cp B m' d,a.tmps[4]?=some (.agg #[.slice A' n cp,.slice B m' d])∧RI v A' n s.ar∧RR true v B m' s.rs)∧a.tmps[5]?=some (.agg #[])) (fun a v h _=>?_) ?_
 .obtain ⟨k0,k2,A',n,cp,B,m',d,k3,k4⟩:=h;exact ⟨Zr,.inl ⟨_,_,run_bdB a v _ rfl,⟨by rw [put_size,k0],k2,A',n,cp,B,m',d,by rw [put_get,if_neg (by decide),k3],k4⟩,by rw [put_get,if_pos rfl,if_pos x0q25]⟩⟩
 refine Wk.op (X m) bQeB rfl (d:=some 6) rfl (opB_ok (fun _ h=>h) (fun _ h=>h) Zk) (fun a v τ d h=>h) (Ψ:=fun a v=>(a.tmps.size=10∧Hx A.v v∧∃ A' n cp B m' d,a.tmps[4]?=some (.agg #[.slice A' n cp,.slice B m' d])∧RI v A' n s.ar∧RR true v B m' s.rs)∧a.tmps[6]?=some (.iface 96 (.agg #[]))) (fun a v h _=>?_) ?_
 .obtain ⟨⟨k0,k2,A',n,cp,B,m',d,k3,k4⟩,k5⟩:=h;exact ⟨Zr,.inl ⟨_,_,run_miB a v _ rfl (eval_tmp k5),⟨by rw [put_size,k0],k2,A',n,cp,B,m',d,by rw [put_get,if_neg (by decide),k3],k4⟩,by rw [put_get,if_pos rfl,if_pos x0q25]⟩⟩
 intro γ ag a v w O hp k2 k3 k4 k5 k6 k7;obtain ⟨⟨h0,hH,A',n,cp,B,m',d,h4,hri,hrr⟩,h6⟩:=hp;refine co_into bQeB rfl rfl rfl Tryz.func63 Zr (c:=bodyF) rfl (fun x hx=>by simp at hx;rcases hx with rfl | rfl<;>exact trivial) k2 k3 k4 k5 k6 ?_;refine (fp_wk (A:=⟨O,γ,v,w⟩) (s:=s) (lex:=false) rfl hSo hoS hK hmono ?_).mono fun a' v' h=>?_
 ·
  intro γ2 x y v2 w2 O2 hout hxy hW2 hN2 hA2;rw [Frame.finish_at];obtain ⟨x0,x1,rfl⟩:=hout.pair;refine Wk.use (Φ:=fun a v'=>a.tmps.size=10∧a.tmps[7]?=some (.tuple #[x0,x1])∧OutF false s A.v (.tuple #[x0,x1]) v') (ag:=ag.put (some 7) (.tuple #[x0,x1])) ⟨by rw [put_size,h0],by rw [put_get,if_pos rfl,if_pos (by rw [h0];decide)],hout.up hH⟩ (by rw [put_defers,k2]) (by rw [put_defers,k3]) ((k4.mono hA2.le).put _ hxy) hW2 hN2 (k7.trans hA2) ?_;clear hout hxy;have iO:Ins (fun (a:Act) (v':World)=>a.tmps.size=10∧a.tmps[7]?=some (.tuple #[x0,x1])∧OutF false s A.v (.tuple #[x0,x1]) v'):=fun a v τ d h=>⟨h.1,h.2.1,h.2.2.ins⟩;refine Wk.op (X m) bQeB rfl (d:=some 8) rfl (xtmp (m:=m) 7) iO (Ψ:=fun a v'=>(a.tmps.size=10∧a.tmps[7]?=some (.tuple #[x0,x1])∧OutF false s A.v (.tuple #[x0,x1]) v')∧a.tmps[8]?=some x0) (fun a v h _=>⟨Zr,.inl ⟨_,_,run_ex7 a v _ x0 x1 0 7 rfl (eval_tmp h.2.1) (by decide),⟨by rw [put_size,h.1],by rw [put_get,if_neg (by decide),h.2.1],h.2.2⟩,by rw [put_get,if_pos rfl,if_pos (by rw [h.1];decide)];rfl⟩⟩) ?_;refine Wk.op (X m) bQeB rfl (d:=some 9) rfl (xtmp (m:=m) 7) (fun a v τ d h=>⟨iO _ _ _ _ h.1,h.2⟩) (Ψ:=fun a v'=>(a.tmps.size=10∧OutF false s A.v (.tuple #[x0,x1]) v')∧a.tmps[8]?=some x0∧a.tmps[9]?=some x1) (fun a v h _=>⟨Zr,.inl ⟨_,_,run_ex7 a v _ x0 x1 1 7 rfl (eval_tmp h.1.2.1) (by decide),⟨by rw [put_size,h.1.1],h.1.2.2⟩,by rw [put_get,if_neg (by decide),h.2],by rw [put_get,if_pos rfl,if_pos x2q25];rfl⟩⟩) ?_;refine Wk.mv (X m) bQeB rfl (.inr rfl) rfl (d:=some 2) rfl (xtmp 8) (Ψ:=fun a v'=>(a.tmps.size=10∧OutF false s A.v (.tuple #[x0,x1]) v')∧a.tmps[2]?=some x0∧a.tmps[9]?=some x1) (fun a v h=>⟨⟨by rw [put_size,h.1.1],h.1.2⟩,by rw [put_get,if_pos rfl,if_pos x2q25,eval_tmp h.2.1],by rw [put_get,if_neg (by decide),h.2.2]⟩) ?_;refine Wk.mv (X m) bQeB rfl (.inr rfl) rfl (d:=some 3) rfl (xtmp 9) (Ψ:=fun a v'=>(a.tmps.size=10∧OutF false s A.v (.tuple #[x0,x1]) v')∧a.tmps[2]?=some x0∧a.tmps[3]?=some x1) (fun a v h=>⟨⟨by rw [put_size,h.1.1],h.1.2⟩,by rw [put_get,if_neg (by decide),h.2.1],by rw [put_get,if_pos rfl,if_pos x2q25,eval_tmp h.2.2]⟩) ?_;refine Wk.regionEnd (Wk.ret (WkR.leave bQB Tryz.func42 tres_QB (R:=OutF false s A.v) (fun a v h=>?_) next));exact ⟨_,leaveQB h.2.1 h.2.2,h.1.2⟩
 .obtain ⟨rfl,rfl⟩:=h;refine ⟨A',n,cp,B,m',d,?_,hri,hrr,Hx.refl _⟩;have e:(#[Operand.tmp 4,.tmp 6].map ag.eval)=#[.agg #[.slice A' n cp,.slice B m' d],.iface 96 (.agg #[])]:=by simp [eval_tmp h4,eval_tmp h6]
  show Act.mk (_++_) []=_;rw [e];simp [lit2,Tryz.ntmps63]
end

