/- -/
import Derived.Test.YtiblbnkpjmmjaaaGreatQ52
set_option maxRecDepth 100000
set_option maxHeartbeats 16000000
set_option linter.all false
namespace Go.Proofs.YtiblbnkpjmmjaaaGreat
open Go.ChangeShapes Go.WideShapes Go.ChangeAt Go.RowKit Go.Joins Go.Deep Go.Conc
set_option maxRecDepth 100000
section
variable {v0 v v' w:World} {s:Sy} {a:Act}
theorem Ly.hx (h:Ly v0 s a v) (k:Hx v v'):Ly v0 s a v':=by
 obtain ⟨h0,h1,h2,h3,q,A,n,c,B,m,d,k1,k2,k3,k4,k5⟩:=h;exact ⟨h0,h1.trans k,h2,h3,q,A,n,c,B,m,d,k1,Hx.keep k k2,Hx.keep k k3,RI.hx k4 k,RR.hx k5 k⟩
theorem Ly.put {t:Nat} {x:Value} (h:Ly v0 s a v) (h4:t≠4) (h6:t≠6) (h8:t≠8) (h10:t≠10) (h12:t≠12):Ly v0 s (a.put (some t) x) v:=by
 obtain ⟨e0,e1,e2,⟨f1,f2,f3,f4⟩,q,A,n,c,B,m,d,k1,k2⟩:=h;exact ⟨by rw [put_size,e0],e1,e2,⟨by rw [put_get,if_neg h6,f1],by rw [put_get,if_neg h8,f2],by rw [put_get,if_neg h10,f3],by rw [put_get,if_neg h12,f4]⟩,q,A,n,c,B,m,d,by rw [put_get,if_neg h4,k1],k2⟩
theorem Ly.sz (h:Ly v0 s a v):a.tmps.size=148:=h.1
theorem chunkYC (h:Ly v0 s a w∧a.tmps[16]?=some (.int .i64 (ordV s 2))) (hd:a.defers=[]):yC.wp Tryz.prog (fun e a' v'=>(e=.normal∧False)∨(e=.ret∧Ry_ v0 a' v')) a w:=by
 obtain ⟨⟨hsz,hH,⟨hsp,_⟩,⟨e6,e8,e10,e12⟩,_⟩,e16⟩:=h;have hs:=sysOk_iff.2 hsp;have hm:inB 2 1 3=true:=by decide
 obtain ⟨b1,hb1⟩:∃ b,(ansF true s).isSome=b:=⟨_,rfl⟩;obtain ⟨b2,hb2⟩:∃ b,(ansF false s).isSome=b:=⟨_,rfl⟩;obtain ⟨b3,hb3⟩:∃ b,(fwO s 2).isSome=b:=⟨_,rfl⟩;obtain ⟨b4,hb4⟩:∃ b,(fpoO s 2).isSome=b:=⟨_,rfl⟩;have key:ordV s 2=if b1=true then 1 else if b2=true then 2 else if b3=true then 3 else if b4=true then 4 else 0:=by
  unfold ordV;rw [if_neg (by rw [hs,hm];decide),hb1,hb2,hb3,hb4]
 rw [key] at e16;rw [hb3] at e6;rw [hb4] at e8;rw [hb1] at e10;rw [hb2] at e12;have HH:=Zh hH;clear key hb1 hb2 hb3 hb4 hs hm hsp hH;obtain ⟨tm,df⟩:=a;simp only at hd hsz e6 e8 e10 e12 e16;subst hd;have hT:=lit148 hsz;rw [gv_of e6,gv_of e8,gv_of e10,gv_of e12,gv_of e16] at hT;rw [hT];clear hT e6 e8 e10 e12 e16 hsz;simp only [yC,bodyY,Tryz.f3,Option.getD_some];cases b1 with
 | true=>
  simp only [if_true];go_wp2_with fail;exact ⟨rfl,rfl,HH.out⟩
 | false=>
  cases b2 with
  | true=>
   simp only [Bool.false_eq_true,if_false,if_true];go_wp2_with fail;exact ⟨rfl,rfl,HH.out⟩
  | false=>
   cases b3 with
   | true=>
    simp only [Bool.false_eq_true,if_false,if_true];go_wp2_with fail;exact ⟨rfl,rfl,HH.out⟩
   | false=>
    cases b4 with
    | true=>
     simp only [Bool.false_eq_true,if_false,if_true];go_wp2_with fail;exact ⟨rfl,rfl,HH.out⟩
    | false=>
     simp only [Bool.false_eq_true,if_false];go_wp2_with fail;exact ⟨rfl,rfl,HH.out⟩
end
theorem run_ldY (a:Act) (w:World) (o:Oper) (q n c m d:Nat) (A B:Option Addr) (hop:o.op=.load 32 (.tmp 4)) (hx:a.eval (.tmp 4)=.pointer (some ⟨q,0,none⟩)) (h:w.cell? ⟨q,0,none⟩=some (.slice A n c)) (h1:w.cell? ⟨q,1,none⟩=some (.slice B m d)):(execOp a.eval o).run Tryz.prog w=.ok (.value (.agg #[.slice A n c,.slice B m d])) w:=by
 simp only [Act.eval,Array.getD_eq_getD_getElem?] at hx;unfold execOp;simp only [hop];simp [go_sem,hx,h,h1]
theorem bY:(base 3).kind=.normal:=rfl
theorem bYe:(base 3).kind≠.early:=by simp [base]
theorem bYn:∃ f,Tryz.prog.funcs[(base 3).fn]?=some f:=⟨_,Tryz.func3⟩
theorem tres_Y:TmpRes Tryz.f3:=tmpB_ok (P:=Tryz.prog) (k:=3) Zk _ Tryz.func3
theorem okY {m:Nat}:∀ c∈[y0,yA,y3,y4,y5,y6,y7,y8,y9,yE,yL,yC],CodeOK Tryz.prog (LM m) c:=by
 intro c hc;simp only [List.mem_cons,List.not_mem_nil,or_false] at hc;rcases hc with rfl | rfl | rfl | rfl | rfl | rfl | rfl | rfl | rfl | rfl | rfl | rfl<;>exact codeB_ok (fun _ h=>h) (fun _ h=>h) Zk
theorem leaveY {a:Act} {y:Value} (h:a.tmps[2]?=some y) (u:World):(results Tryz.f3 a.tmps).run Tryz.prog u=.ok y u:=by
 rw [results_tmp (fn:=Tryz.f3) (t:=2) rfl];simp [h]
section
variable {m:Nat} {A:An} {Post:Value→World→Prop} {s:Sy} {Stop:Set_→Goroutine→World→Prop} {k:List Item}
theorem ret_y (post:∀ γ v w O,Hx A.v v→WRel (LM m) γ v w→Acc A.O A.β A.v A.w O γ v w→Post (.bool true) w) (hS:∀ O g w,AtEnd_ Tryz.prog Post g w→Stop O g w) :
 WkR Tryz.prog (LM m) true Stop A (base 3) [] (Ry_ A.v):=by
 refine WkR.done (fn:=Tryz.f3) bY Zk Tryz.func3 tres_Y hS (R:=fun x v=>x=.bool true∧Hx A.v v) (fun a v h=>⟨.bool true,leaveY h.2.1,rfl,h.2.2⟩) (fun γ x y v w O h hxy hW hn hA=>?_);obtain ⟨rfl,hH⟩:=h;have:y=.bool true:=by
  generalize hx:Value.bool true=x at hxy
  cases hxy<;>cases hx
  rfl
 subst this;exact post γ v w O hH hW hA
theorem callY (hn:Wk Tryz.prog (LM m) true (fun _ g w=>AtEnd_ Tryz.prog Post g w) A (base 3) [] k (fun a v=>Ly A.v s a v∧a.tmps[16]?=some (.int .i64 (ordV s 2)))) :
 Wk Tryz.prog (LM m) true (ScrS Tryz.prog Post 1) A (base 3) [] (.code y17 :: k) (Ly A.v s):=by
 simp only [y17,bodyY,Tryz.f3,Option.getD_some];refine Wk.reg (l:=[0,1,2]) rfl ?_;refine Wk.op (X m) bYe rfl (d:=some 91) rfl (xtmp (m:=m) 4) (fun a v τ d h=>h) (Ψ:=fun a v=>Ly A.v s a v∧∃ A5 n5 c5 B5 m5 d5,a.tmps[91]?=some (Value.agg #[Value.slice A5 n5 c5,Value.slice B5 m5 d5])∧RI v A5 n5 s.ar∧RR true v B5 m5 s.rs) (fun a v h _=>?_) ?_
 .have h':=h;obtain ⟨h0,h1,h2,h3,q,A5,n5,c5,B5,m5,d5,k1,k2,k3,k4,k5⟩:=h;exact ⟨Zr,.inl ⟨_,_,run_ldY a v _ q _ _ _ _ _ _ rfl (eval_tmp k1) k2 k3,h'.put (by decide) (by decide) (by decide) (by decide) (by decide),A5,n5,c5,B5,m5,d5,by rw [put_get,if_pos rfl,if_pos (by rw [h0];decide)],k4,k5⟩⟩
 intro γ ag a v w O hp k2 k3 k4 k5 k6 k7;obtain ⟨hLa,A5,n5,c5,B5,m5,d5,h28,hri,hrr⟩:=hp;refine co_into bYe rfl rfl rfl Tryz.func14 Zr (c:=bodyO) rfl (fun x hx=>by
  simp at hx;rcases hx with rfl | rfl
  .exact trivial
  .exact fun β=>.int _ _) k2 k3 k4 k5 k6 ?_
 refine (or_wk (A:=⟨O,γ,v,w⟩) (s:=s) (most:=2) (Post:=Post) ?_).mono fun a' v' h=>?_
 .intro γ2 x y v2 w2 O2 hout hxy hW2 hN2 hA2;rw [Frame.finish_at];obtain ⟨rfl,hH⟩:=hout;have hz:=hLa.sz;refine Wk.use (Φ:=fun a v'=>Ly A.v s a v'∧a.tmps[92]?=some (.int .i64 (ordV s 2))) (ag:=ag.put (some 92) (.int .i64 (ordV s 2))) ⟨(hLa.hx hH).put (by decide) (by decide) (by decide) (by decide) (by decide),by rw [put_get,if_pos rfl,if_pos (by rw [hz];decide)]⟩ (by rw [put_defers,k2]) (by rw [put_defers,k3]) ((k4.mono hA2.le).put _ hxy) hW2 hN2 (k7.trans hA2) ?_;exact Wk.mv (X m) bYe rfl (.inr rfl) rfl (d:=some 16) rfl (xtmp 92) (fun a v h=>⟨h.1.put (by decide) (by decide) (by decide) (by decide) (by decide),by rw [put_get,if_pos rfl,if_pos (by rw [h.1.sz];decide),eval_tmp h.2]⟩) (Wk.regionEnd hn)
 .obtain ⟨rfl,rfl⟩:=h;refine ⟨A5,n5,c5,B5,m5,d5,?_,hri,hrr,Hx.refl _⟩;have e:(#[Operand.tmp 91,.const (.int .i64 2)].map ag.eval)=#[.agg #[.slice A5 n5 c5,.slice B5 m5 d5],.int .i64 2]:=by simp [eval_tmp h28];rfl
  show Act.mk (_++_) []=_;rw [e];show Act.mk (_++Array.replicate (Tryz.f14.ntmps - 2) undef) []=_;rw [Tryz.ntmps14];exact congrArg (fun t=>Act.mk t []) (litO_eq _ _).symm
theorem lawY_wk {n0:Nat} {x:Value} (h0:RawBy A.v x n0) (post:∀ γ v w O,Hx A.v v→WRel (LM m) γ v w→Acc A.O A.β A.v A.w O γ v w→Post (.bool true) w) :
 Wk Tryz.prog (LM m) true (ScrS Tryz.prog Post 1) A (base 3) [] [.code bodyY] (fun a v=>a=litY x∧Hx A.v v):=by
 rw [bodyY_eq];refine Wk.codes (pcs:=[y0,yA,y3,y4,y5,y6,y7,y8,y9,yE,yL]) (X m) (offs_scr 1) (fun c hc=>okY c (by simp at hc ⊢;rcases hc with rfl | rfl | rfl | rfl | rfl | rfl | rfl | rfl | rfl | rfl | rfl<;>simp)) bY bYn (Ψ:=fun a v=>∃ rs,Ly A.v ⟨[2,1,0],rs⟩ a v) (Ρ:=Ry_ A.v) (fun a v τ d h=>h) (fun a v τ d h=>h) (fun a v τ d h=>h) (fun a v h hd=>?_) ?_ (ret_y post fun _ _ _=>.inl)
 .obtain ⟨rfl,hH⟩:=h;exact chunkY hH h0
 refine Wk.ex fun rs=>Wk.seq (callY ?_);exact Wk.code (X m) offs_end (okY _ (by simp)) bY bYn (Ψ:=fun _ _=>False) (Ρ:=Ry_ A.v) (fun a v τ d h=>h) Ins.f (fun a v τ d h=>h) (fun a v h hd=>chunkYC h hd) (fun γ ag a v w O hp=>hp.elim) (ret_y post fun _ _ _ h=>h)
end
def RawByG (w:World) (v:Value) (n:Nat):Prop:=RawBy w v n∧∃ A c,v=.slice A n c∧Fit w A n c
section
variable {H:Type} {enc:TypeId×Value→H} {w:World} {base b0:Nat} {held:Bool} {r:Reach}
theorem raw_ByG {v:Value} {d:DataW H} {p:List MemPlace} (hv:Value.okWide Tryz.prog w r b0 22 v) (h:DataW.Trod enc Tryz.prog w base (fun _=>true) held 22 v d p):∃ x,RawByG w v x:=by
 obtain ⟨x,hx⟩:=raw_By hv h;refine ⟨x,hx,?_⟩;obtain ⟨A,c,rfl,_⟩:=hx;refine ⟨A,c,rfl,?_⟩;obtain ⟨fuel,hf⟩:=h;rcases open_ints Tryz.underlying22 Tryz.underlying5 Zk hf with ⟨hcs,_⟩ | ⟨a,len,cap,zs,hcs,_,hl,hm,hz,_,hcell,hwf⟩
 .simp [Value.cells] at hcs;exact .inl hcs.1
 .simp [Value.cells] at hcs;obtain ⟨rfl,rfl,rfl⟩:=hcs;simp only [if_true] at hz;rcases Nat.eq_zero_or_pos c with h0 | h0
  .exact .inr ⟨a,rfl,.inr ⟨Zo,h0⟩⟩
  .exact Fit.of_cell (hcell 0 Zo)
end
theorem start_ghostB {W:World} {v0:Value} {n:Nat} (h:RawByG W v0 n):∃ m v,VRel (LM m) (bet0 W) v0 v0∧m≤v.heap.size∧WRel (LM m) (bet0 W) v W∧RawBy v v0 n:=by
 obtain ⟨h1,A,c,rfl,hf⟩:=h;obtain ⟨M,hM⟩:=hf.rel;obtain ⟨v,q1,q2,q3⟩:=ghost_start (LM M) rfl W;refine ⟨M,v,hM M (Nat.le_refl _),?_,q2,?_⟩
 .rw [q1];show M≤W.heap.size+M;omega
 .obtain ⟨A',c',e,k1,k2⟩:=h1;cases e;refine ⟨A,c,rfl,k1,fun hn=>?_⟩;obtain ⟨b,o,e,k3⟩:=k2 hn;exact ⟨b,o,e,fun j hj=>by
   obtain ⟨y,k4,k5⟩:=k3 j hj;exact ⟨y,q3 _ _ k4 (.int _ _),k5⟩⟩
theorem lawY_script {W:World} {v0:Value} {n:Nat} (h:RawByG W v0 n):Script_ Tryz.prog (fun v w=>v=.bool true∧Below W.heap.size W w) 2 (fun x=>x < W.heap.size) (G (Frame.enter Tryz.prog 3 #[v0] .normal) []) W:=by
 obtain ⟨m,v,hv,hm,hW,hB⟩:=start_ghostB h;rw [enter_at _ Tryz.func3 (c:=bodyY) rfl];refine lawY_wk (m:=m) (A:=⟨fun x=>x < W.heap.size,bet0 W,v,W⟩) hB (fun γ v' w O hH hW' hA=>⟨rfl,real_end hm hW hW' hH hA⟩) (bet0 W) (litY v0) _ v W (fun x=>x < W.heap.size) ⟨rfl,Hx.refl _⟩ rfl rfl ?_ hW (fun k x e=>?_) (Acc.refl _ _ _ _)
 .rw [litY_eq];refine VsRel.append (VsRel.one hv) ⟨by simp [Tryz.ntmps3],fun i v w h1 h2=>?_⟩;have e1:=Array.mem_of_getElem? h1;have e2:=Array.mem_of_getElem? h2;rw [(Array.mem_replicate.1 e1).2,(Array.mem_replicate.1 e2).2];exact undef_rel
 .obtain ⟨rfl,d,T,f,e⟩:=bet0_inv e;exact lt_of_heap e

