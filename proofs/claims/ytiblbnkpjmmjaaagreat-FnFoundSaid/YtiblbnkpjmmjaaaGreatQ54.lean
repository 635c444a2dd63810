/- Proved: for every input the law FnFound returns true, does not panic, and its argument reads afterwards as it read before. Conditions: none. -/
import Derived.Test.YtiblbnkpjmmjaaaGreatQ53
import Derived.Conc.LeavingOf
set_option maxRecDepth 100000
set_option maxHeartbeats 16000000
set_option linter.all false
namespace Go.Proofs.YtiblbnkpjmmjaaaGreat.FnFound
open Go.ChangeShapes Go.WideShapes Go.ChangeAt Go.RowKit Go.Conc
theorem lifted (os:Os) (started:os.Started) (H:Type) (enc:TypeId×Value→H) :
 ReturnsInLeavingWide {} Tryz.checked os 3 .any (Rows.fnFoundSpec.pre6 enc Tryz.prog Tryz.f3 Rows.fnFoundRow.domain false) (Rows.fnFoundSpec.post enc Tryz.prog Tryz.f3 false true false false):=by
 refine returnsInLeavingWide_of_change_sized (C:=Tryz.checked) own started Tryz.func3
  (ChangeSpec.witness6 (enc:=enc) (C:=Tryz.checked) false ⟨#[],#[.slice none 0 0],[]⟩ 8 Zk Zk Zk Zk) ?_
 intro W base args ds gs before hval0 hW hcnd _ _;have hval:∀ (j:Nat) t v,Tryz.f3.params[j]?=some t→args[j]?=some v→Value.okWide Tryz.prog W .any base t v:=hval0;have hW':=hW;obtain ⟨p,q,hA0,hV,rfl,hfz,hnd⟩:=hW;have hA:DataW.TrodAll enc Tryz.prog W 0 (fun _=>true) true Tryz.f3.params.toList args.toList ds p:=hA0;rw [Tryz.params3] at hA hval;obtain ⟨v0,vs0,d0,ds0,p0,q0,hargs,rfl,rfl,h0,r0⟩:=trodAll_cons hA;obtain ⟨rfl,rfl,rfl⟩:=trodAll_nil r0;obtain rfl:args=#[v0]:=by cases args;simp_all
 obtain ⟨rfl,rfl⟩:=trodVars_none hV;have k0:=h0;have lt0:∀ x∈p0,x.block < W.heap.size:=by obtain ⟨m,hm⟩:=k0;exact DataW.trod_lt m _ _ _ hm
 obtain ⟨x0,w0⟩:=raw_ByG (hval 0 22 v0 rfl rfl) h0;clear hA0 hval0;obtain ⟨M,last,o,w',t',h1',h2',h3',h4'⟩:=script_solo (lawY_script w0) (fun x hx=>hx);refine ⟨M,last,o,w',t',h1',h2',h3',h4'.mono fun v hF=>?_⟩;obtain ⟨rfl,bel⟩:=hF;exact ⟨_,_,_,[],_,[],hW',trodAll_mk1 (shut_bool Tryz.underlying4 _),(trodAll_cons_mk (Below.trod laidOut Zk (of_decide_eq_true Zk) k0 bel lt0) trodAll_mk0),rfl,bel.frame _,fun h=>by cases h⟩
theorem over:Rows.fnFoundRow.holds Tryz.pinned (OpenSpec.ofChange Rows.fnFoundSpec):=
 OpenClaim.holds_of_wide_leaving 3 Tryz.f3 rfl rfl rfl rfl rfl rfl rfl ⟨rfl,rfl,rfl,rfl,rfl⟩ rfl rfl rfl rfl rfl Zk Tryz.func3 Zk
  (of_decide_eq_true Zk) (by unfold Func.isWrapper;first | (rw [if_pos (by decide +kernel)];kernel_rfl) | (rw [if_neg (by decide +kernel)];exact ⟨rfl,rfl⟩))
  (fun os started H enc _=>lifted os started H enc)
theorem proved:Rows.FnFoundSaid:=over
end Go.Proofs.YtiblbnkpjmmjaaaGreat.FnFound
