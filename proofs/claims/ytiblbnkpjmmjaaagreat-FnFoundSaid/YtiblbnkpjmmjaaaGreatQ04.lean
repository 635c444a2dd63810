/- -/
import Derived.Test.YtiblbnkpjmmjaaaGreatQ03
set_option maxRecDepth 100000
set_option maxHeartbeats 16000000
set_option linter.all false
namespace Go.Proofs.YtiblbnkpjmmjaaaGreat
open Go.Conc
inductive NRel (L:Lim) (β:Bl):Next→Next→Prop
 | value {x y:Value} (h:VRel L β x y):NRel L β (.value x) (.value y)
 | skip:NRel L β .skip .skip
 | enter (f:FuncId) {as1 bs:Array Value} (hf:L.fn f) (h:VsRel L β as1 bs):NRel L β (.enter f as1) (.enter f bs)
section
variable {P:Program} {L:Lim} {α α':Type} {R:Bl→α→α→Prop} {R':Bl→α'→α'→Prop} {β γ:Bl}
abbrev RN (L:Lim):Bl→Next→Next→Prop:=fun γ a b=>NRel L γ a b
theorem rel_v {s t:Sem Value} (h:SRel P L (RV L) β s t):SRel P L (RN L) β (do pure (.value (← s))) (do pure (.value (← t))):=SRel.bnd h fun _ _ a b hab=>.pure (.value hab)
theorem rel_u {s t:Sem Unit} (h:SRel P L RU β s t):SRel P L (RN L) β (do s;pure .skip) (do t;pure .skip):=SRel.bnd h fun _ _ a b hab=>.pure .skip
theorem rel_callFunc (hP:PL P L) {f:FuncId} (hf:L.fn f) {as1 bs:Array Value} (h:VsRel L β as1 bs):SRel P L (RN L) β (callFunc f as1) (callFunc f bs):=by
 unfold callFunc;refine SRel.bnd same_programP fun γ hl p q e=>?_;obtain ⟨e1,e2⟩:=e;rw [e1,e2];obtain ⟨fn,h1,h2,h3⟩:=hP.fn f hf;rw [h1];dsimp only;rw [h2];have h4:fn.body.isNone=false:=by cases hb:fn.body<;>simp_all
 simp only [Bool.false_eq_true,if_false,h4];exact .pure (.enter f hf (h.mono hl))
theorem same_infoP (t:TypeId):SRel P L (fun _ a b=>a=b∧P.info? t=some a) β (typeInfo t) (typeInfo t):=by
 unfold typeInfo;refine SRel.bnd same_programP fun γ hl a b e=>?_;obtain ⟨e1,e2⟩:=e;rw [e1,e2];cases h:P.info? t with
 | none=>exact .stuck
 | some d=>exact .pure ⟨rfl,rfl⟩
theorem rel_method (hP:PL P L) {t:TypeId} (ht:L.ty t) (name:String) {x y:Value} (h:VRel L β x y):∀ n:Nat,SRel P L (fun γ (a b:FuncId×Value)=>a.1=b.1∧L.fn a.1∧VRel L γ a.2 b.2) β (method n t x name) (method n t y name)
 | 0=>.unsup
 | n+1=>by
  unfold method;refine SRel.bnd (same_infoP t) fun γ hl i j e=>?_;obtain ⟨rfl,hi⟩:=e;cases hm:i.methods.find? (·.name == name) with
  | none=>exact .stuck
  | some m=>
   obtain ⟨h1,f,h2,h3⟩:=hP.ty t ht i hi name m hm;dsimp only;rw [h1,h2];refine SRel.pureB ?_;dsimp only;refine SRel.bnd (R:=RV L) ?_ fun γ2 hl2 a b hab=>.pure ⟨rfl,h3,hab⟩;unfold receiverAt;refine SRel.bnd (same_underP t) fun γ3 hl3 d d' e=>?_;obtain ⟨rfl,e1⟩:=e;have hv:=(h.mono hl).mono hl3;cases d with
   | pointer e=>exact absurd e1 (hP.np t ht e)
   | _=>exact .pure hv
theorem rel_callMethod (hP:PL P L) (name:String) {x y:Value} {as1 bs:Array Value} (h:VRel L β x y) (hs:VsRel L β as1 bs):SRel P L (RN L) β (callMethod x name as1) (callMethod y name bs):=by
 unfold callMethod;cases h with
 | iface t ht hv=>
  refine SRel.bnd same_programP fun γ hl p q e=>?_;obtain ⟨e1,e2⟩:=e;rw [e1,e2];refine SRel.bnd (rel_method hP ht name (hv.mono hl) _) fun δ hl2 a b hab=>?_;obtain ⟨f,r⟩:=a;obtain ⟨f',r'⟩:=b;obtain ⟨h1,h2,h3⟩:=hab;cases h1;exact rel_callFunc hP h2 ((VsRel.one h3).append ((hs.mono hl).mono hl2))
 | nilIface=>exact .program .panic
 | _=>exact .stuck
theorem dead_pz (hP:PL P L) {z0:Value} {as1:Array Value} {u:Sem Next}:SRel P L (RN L) β (Deferred.ofValue (pz L.bad z0) as1 >>= fun d=>invoke d.target d.args) u:=by
 refine .dead fun w=>?_
 have hi : (typeInfo L.bad).run P w = .halt (.stuck "no such type") w := by
  unfold typeInfo;rw [Sem.run_bind]
  show ((match P.info? L.bad with | some i => Pure.pure i | none => Go.stuck "no such type" : Sem TypeInfo).run P w) = _;rw [hP.bad];rfl
 have hm : ∀ n, ∃ e w', (method n L.bad z0 "").run P w = .halt e w' ∧ qh e = true := fun n => by
  cases n with
  | zero=>exact ⟨_,_,rfl,rfl⟩
  | succ n=>
   unfold method;rw [Sem.run_bind,hi];exact ⟨_,_,rfl,rfl⟩
 show ∃ e w', (invoke (.fn (.method "") #[]) (#[.iface L.bad z0] ++ as1)).run P w = .halt e w' ∧ _;unfold invoke;have h0:(#[Value.iface L.bad z0]++as1)[0]?=some (.iface L.bad z0):=by
  rw [Array.getElem?_append_left (Nat.zero_lt_one)];rfl
 dsimp only;rw [h0]
 show ∃ e w', (callMethod (.iface L.bad z0) "" _).run P w = .halt e w' ∧ _;unfold callMethod;rw [Sem.run_bind]
 show ∃ e w', Sem.run P (method (P.types.size + Made.depth) L.bad z0 "" >>= _) w = .halt e w' ∧ _;obtain ⟨e,w',h1,h2⟩:=hm (P.types.size+Made.depth);rw [Sem.run_bind,h1];exact ⟨_,_,rfl,h2⟩
theorem rel_callV (hP:PL P L) {x y:Value} {as1 bs:Array Value} (h:VRel L β x y) (hs:VsRel L β as1 bs):SRel P L (RN L) β (Deferred.ofValue x as1 >>= fun d=>invoke d.target d.args) (Deferred.ofValue y bs >>= fun d=>invoke d.target d.args):=by
 cases h with
 | poison=>exact dead_pz hP
 | func f hf h1 h2 h3 h4=>exact rel_callFunc hP hf ((VsRel.append ⟨h1,h3⟩ hs).append ⟨h2,h4⟩)
 | nilFunc=>exact .program .panic
 | _=>exact .stuckB
theorem map_vs {xs:Array Operand} {ρ σ:Operand→Value} (h:∀ x∈xs.toList,VRel L β (ρ x) (σ x)):VsRel L β (xs.map ρ) (xs.map σ):=by
 refine ⟨by simp,fun i v w h1 h2=>?_⟩;simp only [Array.getElem?_map,Option.map_eq_some_iff] at h1 h2;obtain ⟨a,h3,rfl⟩:=h1;obtain ⟨b,h4,rfl⟩:=h2;rw [h3] at h4;cases h4;exact h a (by rw [Array.mem_toList_iff];exact Array.mem_of_getElem? h3)
def XOK (L:Lim):Operand→Prop
 | .tmp _=>True
 | .const v=>∀ β,VRel L β v v
 | .global _=>False
 | .func f=>L.fn f
def SlT (P:Program) (ts:Array TypeId) (i:Nat):Prop:=∃ u e,ts[i]?=some u∧P.underlying u=some (.slice e)
def CallOK (P:Program) (L:Lim) (c:Call):Prop:=
 (∀ x∈c.args.toList,XOK L x)∧match c.callee with
 | .value f=>XOK L f
 | .invoke r _=>XOK L r
 | .builtin .len=>SlT P c.argTypes 0
 | .builtin .append=>(∃ u e,c.argTypes[0]?=some u∧P.underlying u=some (.slice e)∧e < P.types.size)∧SlT P c.argTypes 1
 | .builtin .min=>True
 | .builtin .max=>True
 | .builtin .copy=>True
 | .builtin .clear=>∃ u e,c.argTypes[0]?=some u∧P.underlying u=some (.slice e)∧e < P.types.size
 | _=>False
def OpOK (P:Program) (L:Lim):Op→Prop
 | .move x | .assign x | .nilCheck x | .box _ x | .load _ x | .fieldAddr _ x _ | .extract x _=>XOK L x
 | .pick c a b=>XOK L c∧XOK L a∧XOK L b
 | .alloc t=>t < P.types.size
 | .build t ps=>t < P.types.size∧∀ p∈ps.toList,XOK L p.2
 | .buildSlice t _ ps=>ZE P t∧∀ p∈ps.toList,XOK L p.2
 | .store _ a x=>XOK L a∧XOK L x
 | .binOp op t x y _=>XOK L x∧XOK L y∧(TOK P t∨(TOS P t∧(op=.eql∨op=.neq)))∧P.eqGuardType P.depth t=false∧(BOK op∨op=.eql∨op=.neq∨BOK2 op)
 | .unOp op _ x=>XOK L x∧(op=.not∨op=.neg)
 | .convert s d x=>XOK L x∧∃ k k',P.underlying s=some (.int k')∧P.underlying d=some (.int k)
 | .makeInterface t x=>XOK L x∧L.ty t
 | .makeFunc fn first captured=>(∃ f,fn=.func f∧L.fn f)∧(∀ x∈first.toList,XOK L x)∧∀ x∈captured.toList,XOK L x
 | .makeSlice t x y=>XOK L x∧XOK L y∧ZE P t
 | .indexAddr _ x y=>XOK L x∧XOK L y
 | .index t x y=>(XOK L x∧XOK L y)∧P.underlying t=some .string
 | .slice _ x lo hi mx=>XOK L x∧(∀ y,lo=some y→XOK L y)∧(∀ y,hi=some y→XOK L y)∧∀ y,mx=some y→XOK L y
 | .typeAssert x _ u ok=>XOK L x∧ok=true∧u < P.types.size
 | .panic x=>XOK L x
 | .call c=>CallOK P L c
 | _=>False
theorem ro_map {o:Option Operand} {ρ σ:Operand→Value} (h:∀ y,o=some y→VRel L β (ρ y) (σ y)):RO L β (o.map ρ) (o.map σ):=by
 cases o with
 | none=>trivial
 | some x=>exact h x rfl
theorem dead_bin {op:BinOp} (ho:BOK op∨op=.eql∨op=.neq∨BOK2 op) {t:TypeId} (ht:TOK P t) {x u:Value} (hp:IsPz L.bad x∨IsPz L.bad u) (y:Sem Value):SRel P L (RV L) β (binOp op t x u) y:=by
 rcases ho with ho | rfl | rfl | ho
 .rcases hp with ⟨z,rfl⟩ | ⟨z,rfl⟩
  .cases u with
   | pointer a=>cases a<;>rcases ho with rfl | rfl | rfl | rfl | rfl | rfl | rfl<;>exact .unsup
   | _=>rcases ho with rfl | rfl | rfl | rfl | rfl | rfl | rfl<;>exact .stuck
  .cases x with
   | pointer a=>cases a<;>rcases ho with rfl | rfl | rfl | rfl | rfl | rfl | rfl<;>exact .unsup
   | _=>rcases ho with rfl | rfl | rfl | rfl | rfl | rfl | rfl<;>exact .stuck
 .have:=SRel.deadB (P:=P) (L:=L) (R':=RV L) (β:=β) (f:=fun b=>Pure.pure (Value.bool b)) (u:=y) (dead_equal ht hp);rcases hp with ⟨z,rfl⟩ | ⟨z,rfl⟩
  .cases u<;>exact this
  .cases x<;>exact this
 .have:=SRel.deadB (P:=P) (L:=L) (R':=RV L) (β:=β) (f:=fun b=>Pure.pure (Value.bool (!b))) (u:=y) (dead_equal ht hp);rcases hp with ⟨z,rfl⟩ | ⟨z,rfl⟩
  .cases u<;>exact this
  .cases x<;>exact this
 .rcases hp with ⟨z,rfl⟩ | ⟨z,rfl⟩
  .cases u with
   | pointer a=>cases a<;>rcases ho with rfl | rfl | rfl | rfl | rfl | rfl | rfl | rfl<;>exact .unsup
   | _=>rcases ho with rfl | rfl | rfl | rfl | rfl | rfl | rfl | rfl<;>exact .stuck
  .cases x with
   | pointer a=>cases a<;>rcases ho with rfl | rfl | rfl | rfl | rfl | rfl | rfl | rfl<;>exact .unsup
   | _=>rcases ho with rfl | rfl | rfl | rfl | rfl | rfl | rfl | rfl<;>exact .stuck
theorem guard_pz (op:BinOp) (t:TypeId) (x y:Operand) {a c:Value} (h:IsPz L.bad a∨IsPz L.bad c):eqGuard op t x y a c=Pure.pure ():=by
 rcases h with ⟨z,rfl⟩ | ⟨z,rfl⟩
 .cases op<;>cases c<;>rfl
 .cases op<;>cases a<;>rfl
theorem VsRel.extract {as1 bs:Array Value} (h:VsRel L β as1 bs) (i j:Nat):VsRel L β (as1.extract i j) (bs.extract i j):=by
 refine ⟨by simp [h.1],fun k v w h1 h2=>?_⟩;rw [Array.getElem?_extract] at h1 h2;rw [← h.1] at h2;split at h1
 .rename_i e;rw [if_pos e] at h2;exact h.2 _ v w h1 h2
 .cases h1
theorem rel_op (hP:PL P L) (hg:P.globals.size≤L.g) {o:Oper} {ρ σ:Operand→Value} (ho:OpOK P L o.op) (h:∀ x,XOK L x→VRel L β (ρ x) (σ x)):SRel P L (RN L) β (execOp ρ o) (execOp σ o):=by
 unfold execOp
 revert ho
 cases hop:o.op with
 | move x=>exact fun ho=>.pure (.value (h x ho))
 | assign x=>exact fun ho=>.pure (.value (h x ho))
 | pick c a b=>
  rintro ⟨h1,h2,h3⟩;refine SRel.bnd (rel_asBool (h c h1)) fun γ hl x y e=>?_;subst e;cases x
  .exact .pure (.value ((h b h3).mono hl))
  .exact .pure (.value ((h a h2).mono hl))
 | alloc t=>exact fun ho=>rel_v (rel_alloc hP t ho)
 | box t x=>exact fun ho=>rel_v (rel_box t (h x ho))
 | build t ps=>exact fun ho=>rel_v (rel_build hP t ho.1 (map_rel fun p hp=>h p.2 (ho.2 p hp)))
 | buildSlice t n ps=>exact fun ho=>rel_v (rel_buildSlice hP t n ho.1 (map_rel fun p hp=>h p.2 (ho.2 p hp)))
 | load t a=>exact fun ho=>rel_v (rel_loadAt t (h a ho))
 | store t a x=>exact fun ho=>rel_u (rel_storeAt t (h a ho.1) (h x ho.2))
 | nilCheck x=>
  intro ho;have:=rel_nilCheck (P:=P) hP (h x ho) o x hop (ρ:=ρ) (σ:=σ) rfl rfl;unfold execOp at this;rw [hop] at this;exact this.imp fun γ a b ⟨x,y,e1,e2,h⟩=>by subst e1;subst e2;exact .value h
 | binOp op t x y t2=>
  rintro ⟨h1,h2,h3,h4,h5⟩;refine rel_v ?_;have hx:=h x h1;have hy:=h y h2;rcases h3 with h3 | ⟨h3,h6⟩
  case inr=>
   by_cases hp:IsPz L.bad (ρ x)∨IsPz L.bad (ρ y)
   .rw [guard_pz op t x y hp];exact dead_binS h6 h3 hp _
   .refine SRel.bnd (rel_eqGuard op h4 x y hx hy (fun e=>hp (.inl e)) (fun e=>hp (.inr e))) fun γ hl _ _ _=>?_;rcases h6 with rfl | rfl
    .exact (rel_binEqS hg h3 (hx.mono hl) (hy.mono hl)).1
    .exact (rel_binEqS hg h3 (hx.mono hl) (hy.mono hl)).2
  have rest:∀ γ,Bl.Le β γ→SRel P L (RV L) γ (binOp op t (ρ x) (ρ y)) (binOp op t (σ x) (σ y)):=fun γ hl=>by
   rcases h5 with h5 | rfl | rfl | h5
   .exact rel_binArith hg h5 h3 (hx.mono hl) (hy.mono hl)
   .exact (rel_binEq hg h3 (hx.mono hl) (hy.mono hl)).1
   .exact (rel_binEq hg h3 (hx.mono hl) (hy.mono hl)).2
   .exact rel_binMore h5 (hx.mono hl) (hy.mono hl)
  by_cases hp:IsPz L.bad (ρ x)∨IsPz L.bad (ρ y)
  .rw [guard_pz op t x y hp];exact dead_bin h5 h3 hp _
  .exact SRel.bnd (rel_eqGuard op h4 x y hx hy (fun e=>hp (.inl e)) (fun e=>hp (.inr e))) fun γ hl _ _ _=>rest γ hl
 | unOp op t x=>exact fun ho=>rel_v (rel_unary op ho.2 (h x ho.1))
 | convert s d x=>
  rintro ⟨h1,k,k',h2,h3⟩;exact rel_v (rel_convert h2 h3 (h x h1))
 | makeInterface t x=>exact fun ho=>rel_v (rel_makeInterface t ho.2 (h x ho.1))
 | makeFunc fn first captured=>
  rintro ⟨⟨f,rfl,hf⟩,h1,h2⟩;have a:=map_vs (ρ:=ρ) (σ:=σ) fun x hx=>h x (h1 x hx);have b:=map_vs (ρ:=ρ) (σ:=σ) fun x hx=>h x (h2 x hx);exact .pure (.value (.func f hf a.1 b.1 a.2 b.2))
 | makeSlice t x y=>exact fun ho=>rel_v (rel_makeSlice hP t ho.2.2 (h x ho.1) (h y ho.2.1))
 | slice t x lo hi mx=>exact fun ho=>rel_v (rel_slice t (h x ho.1) (ro_map fun y e=>h y (ho.2.1 y e)) (ro_map fun y e=>h y (ho.2.2.1 y e)) (ro_map fun y e=>h y (ho.2.2.2 y e)))
 | fieldAddr s x f=>exact fun ho=>rel_v (rel_fieldAt s f (h x ho))
 | indexAddr t x i=>exact fun ho=>rel_v (rel_indexAt t (h x ho.1) (h i ho.2))
 | index t x i=>exact fun ho=>rel_v (rel_index ho.2 (h x ho.1.1) (h i ho.1.2))
 | typeAssert x t u ok=>
  rintro ⟨h1,rfl,h2⟩;exact rel_v (rel_typeAssert hP t u h2 (h x h1))
 | extract x k=>exact fun ho=>rel_v (rel_extract k (h x ho))
 | panic x=>exact fun ho=>rel_v rel_panicOp
 | call c=>
  rintro ⟨h1,h2⟩;have hargs:=map_vs (ρ:=ρ) (σ:=σ) fun x hx=>h x (h1 x hx);obtain ⟨callee,args,ats⟩:=c;cases callee with
  | value f=>exact rel_callV hP (h f h2) hargs
  | invoke r n=>
   have hall:=(VsRel.one (h r h2)).append hargs;have e1:(#[ρ r]++args.map ρ)[0]?=some (ρ r):=by rw [Array.getElem?_append_left (Nat.zero_lt_one)];rfl
   have e2:(#[σ r]++args.map σ)[0]?=some (σ r):=by rw [Array.getElem?_append_left (Nat.zero_lt_one)];rfl
   show SRel P L (RN L) β (invoke (.fn (.method n) #[]) (#[ρ r]++args.map ρ)) (invoke (.fn (.method n) #[]) (#[σ r]++args.map σ));unfold invoke;dsimp only;rw [e1,e2];have hsz:=hall.1;rw [← hsz];exact rel_callMethod hP n (h r h2) (hall.extract 1 _)
  | builtin b=>
   cases b with
   | len=>
    obtain ⟨u,e,h3,h4⟩:=h2;exact rel_v (rel_len ats o.type hargs fun u' hu=>by rw [h3] at hu;cases hu;exact ⟨e,h4⟩)
   | append=>
    obtain ⟨⟨u,e,h3,h4,h6⟩,h5⟩:=h2;exact rel_v (rel_append hP ats o.type hargs (fun u' hu=>by rw [h3] at hu;cases hu;exact ⟨e,h4,h6⟩) h5)
   | min=>exact rel_v (rel_min ats o.type hargs)
   | max=>exact rel_v (rel_max ats o.type hargs)
   | copy=>exact rel_v (rel_copy ats o.type hargs)
   | clear=>
    obtain ⟨u,e,h3,h4,h6⟩:=h2;exact rel_v (rel_clear hP ats o.type hargs fun u' hu=>by rw [h3] at hu;cases hu;exact ⟨e,h4,h6⟩)
   | _=>exact h2.elim
 | _=>exact fun ho=>ho.elim
end
def CodeOK (P:Program) (L:Lim):Code→Prop
 | .skip | .ret | .label _ | .exit _=>True
 | .seq a b=>CodeOK P L a∧CodeOK P L b
 | .cond c a b=>XOK L c∧CodeOK P L a∧CodeOK P L b
 | .block _ c | .loop c=>CodeOK P L c
 | .region _ ops _=>∀ o∈ops.toList,OpOK P L o.op
 | _=>False
def ItemOK (P:Program) (L:Lim):Item→Prop
 | .code c | .inLoop c=>CodeOK P L c
 | .inBlock _=>True
 | .inRegion ops _=>∀ o∈ops.toList,OpOK P L o.op
 | _=>False
def mark_ : Item := .code (.refuse "")
def spineC (tail:Code):List Code→Code
 | []=>tail
 | c :: cs=>.seq c (spineC tail cs)
inductive TRel (P:Program) (L:Lim) (K:List Item):List Item→List Item→Prop
 | same {k:List Item} (h:∀ i∈k,ItemOK P L i):TRel P L K k k
 | mark {k:List Item} (h:∀ i∈k,ItemOK P L i):TRel P L K (k++[mark_]) (k++K)
 | spine {k K0 : List Item} {cs : List Code} {tail : Code} (hK : K = .code tail :: K0) (h : ∀ i ∈ k, ItemOK P L i) (hc : ∀ c ∈ cs, CodeOK P L c) : TRel P L K (k ++ [.code (spineC (.refuse "") cs)]) (k ++ .code (spineC tail cs) :: K0)
theorem TRel.cons {P:Program} {L:Lim} {K:List Item} {i:Item} {k l:List Item} (hi:ItemOK P L i) (h:TRel P L K k l):TRel P L K (i :: k) (i :: l):=by
 have key:∀ k:List Item,(∀ j∈k,ItemOK P L j)→∀ j∈i :: k,ItemOK P L j:=fun k h j hj=>by
  rcases List.mem_cons.1 hj with rfl | hj
  .exact hi
  .exact h j hj
 cases h with
 | same h=>exact .same (key _ h)
 | @mark k h=>exact .mark (k:=i :: k) (key _ h)
 | @spine k K0 cs tail hK h hc=>exact .spine (k:=i :: k) hK (key _ h) hc
theorem TRel.inv {P:Program} {L:Lim} {K:List Item} {k l:List Item} (h:TRel P L K k l):(k=[]∧l=[])∨(k=[mark_]∧l=K)∨(∃ i k' l',k=i :: k'∧l=i :: l'∧ItemOK P L i∧TRel P L K k' l') ∨
 ∃ c cs tail K0, k = [.code (.seq c (spineC (.refuse "") cs))] ∧ l = .code (.seq c (spineC tail cs)) :: K0 ∧ CodeOK P L c ∧ TRel P L K [.code (spineC (.refuse "") cs)] (.code (spineC tail cs) :: K0) := by
 cases h with
 | same h=>
  cases k with
  | nil=>exact .inl ⟨rfl,rfl⟩
  | cons i k=>exact .inr (.inr (.inl ⟨i,k,k,rfl,rfl,h i List.mem_cons_self,.same fun j hj=>h j (List.mem_cons_of_mem _ hj)⟩))
 | @mark k h=>
  cases k with
  | nil=>exact .inr (.inl ⟨rfl,rfl⟩)
  | cons i k=>exact .inr (.inr (.inl ⟨i,_,_,rfl,rfl,h i List.mem_cons_self,.mark fun j hj=>h j (List.mem_cons_of_mem _ hj)⟩))
 | @spine k K0 cs tail hK h hc=>
  cases k with
  | nil=>
   cases cs with
   | nil=>exact .inr (.inl ⟨rfl,hK.symm⟩)
   | cons c cs=>exact .inr (.inr (.inr ⟨c,cs,tail,K0,rfl,rfl,hc c List.mem_cons_self,.spine (k:=[]) hK (by simp) fun x hx=>hc x (List.mem_cons_of_mem _ hx)⟩))
  | cons i k=>exact .inr (.inr (.inl ⟨i,_,_,rfl,rfl,h i List.mem_cons_self,.spine hK (fun j hj=>h j (List.mem_cons_of_mem _ hj)) hc⟩))
theorem TRel.exit {P:Program} {L:Lim} {K:List Item} {id:Nat} {k:List Item}:∀ {l k':List Item},TRel P L K k l→exitTo id k=some k'→∃ l',exitTo id l=some l'∧TRel P L K k' l':=by
 induction k with
 | nil=>intro l k' h e;cases e
 | cons i k ih=>
  intro l k' h e;rcases h.inv with ⟨h,_⟩ | ⟨h,_⟩ | ⟨j,k2,l2,h1,h2,h3,h4⟩ | ⟨c,cs,tail,K0,h1,_⟩
  case inr.inr.inr=>
   injection h1 with h1 h2
   subst h1;subst h2;cases e
  .cases h
  .injection h with h1 h2
   subst h1;subst h2;cases e
  .cases h1;subst h2;have rec_:exitTo id k=some k'→(∀ x,exitTo id (i :: x)=exitTo id x)→∃ l',exitTo id (i :: l2)=some l'∧TRel P L K k' l':=fun e2 hx=>by
    rw [hx];exact ih h4 e2
   cases i with
   | inBlock id'=>
    unfold exitTo at e ⊢;split at e
    .rename_i hc
     rw [if_pos hc];cases e;exact ⟨l2,rfl,h4⟩
    .rename_i hc
     rw [if_neg hc];exact ih h4 e
   | _=>exact rec_ e fun x=>rfl
def ModeRel:FrameMode→FrameMode→Prop
 | .run,.run=>True
 | .returning,.returning=>True
 | _,_=>False
structure FRel (P:Program) (L:Lim) (K:List Item) (β:Bl) (a b:Frame):Prop where
 fn:a.fn=b.fn
 todo:TRel P L K a.todo b.todo
 tmps:VsRel L β a.tmps b.tmps
 da:a.defers=[]
 db:b.defers=[]
 mode:ModeRel a.mode b.mode
 ka:a.kind=.normal
 kb:b.kind=.normal
 ra:a.roundOf=none
 rb:b.roundOf=none
 isF:∃ f,P.funcs[a.fn]?=some f
section
variable {P:Program} {L:Lim} {K:List Item} {β γ:Bl} {a b:Frame}
theorem FRel.mono (hl:Bl.Le β γ) (h:FRel P L K β a b):FRel P L K γ a b:={ h with tmps:=h.tmps.mono hl }
theorem undef_rel:VRel L β undef undef:=.tuple rfl fun i v w h=>by simp at h
theorem FRel.eval (h:FRel P L K β a b) {x:Operand} (hx:XOK L x):VRel L β (a.eval x) (b.eval x):=by
 cases x with
 | tmp t=>
  show VRel L β (a.tmps.getD t undef) (b.tmps.getD t undef);rw [Array.getD_eq_getD_getElem?,Array.getD_eq_getD_getElem?];cases hv:a.tmps[t]? with
  | none=>rw [h.tmps.none hv];exact undef_rel
  | some v=>
   obtain ⟨w,hw,hr⟩:=h.tmps.get hv;rw [hw];exact hr
 | const v=>exact hx β
 | global g=>exact hx.elim
 | func f=>exact .func f hx rfl rfl (fun i v w h=>by simp at h) (fun i v w h=>by simp at h)
def AtOp (a:Frame):Prop:=∃ ops i rest k,a.todo=.inRegion ops (i :: rest) :: k
theorem FRel.finish (h:FRel P L K β a b) (e:AtOp a) {v w:Value} (hv:VRel L β v w):FRel P L K β (a.finish v) (b.finish w):=by
 obtain ⟨ops,i,rest,k0,e⟩:=e;rcases h.todo.inv with ⟨e1,e2⟩ | ⟨e1,e2⟩ | ⟨x,k,l,e1,e2,hi,hk⟩ | ⟨_,_,_,_,e1,_⟩
 case inr.inr.inr=>rw [e1] at e;cases e
 .rw [e1] at e;cases e
 .rw [e1] at e;cases e
 .rw [e1] at e;cases e;unfold Frame.finish;rw [e1,e2];refine ⟨h.fn,TRel.cons (i:=.inRegion ops rest) hi hk,?_,h.da,h.db,h.mode,h.ka,h.kb,h.ra,h.rb,h.isF⟩;dsimp only;cases (ops[i]?).bind (·.dst) with
  | none=>exact h.tmps
  | some d=>exact h.tmps.set d hv
theorem raise_eq (a:Frame) (c:List PanicEntry):∃ e,a.raise c={ a with mode:=.panicking e }:=by
 unfold Frame.raise;split<;>exact ⟨_,rfl⟩
theorem FRel.to (h:FRel P L K β a b) {k l:List Item} (hk:TRel P L K k l):FRel P L K β { a with todo:=k } { b with todo:=l }:=
 ⟨h.fn,hk,h.tmps,h.da,h.db,h.mode,h.ka,h.kb,h.ra,h.rb,h.isF⟩
structure FnsOK (P:Program) (L:Lim):Prop where
 body:∀ f,L.fn f→∃ fn c,P.funcs[f]?=some fn∧fn.body=some c∧CodeOK P L c
theorem enter_rel (hF:FnsOK P L) {f:FuncId} (hf:L.fn f) {as1 bs:Array Value} (h:VsRel L β as1 bs):FRel P L K β (Frame.enter P f as1 .normal) (Frame.enter P f bs .normal):=by
 obtain ⟨fn,c,h1,h2,h3⟩:=hF.body f hf;unfold Frame.enter;rw [h1];dsimp only;refine ⟨rfl,.same fun i hi=>?_,?_,rfl,rfl,trivial,rfl,rfl,rfl,rfl,⟨fn,h1⟩⟩
 .simp only [List.mem_singleton] at hi;subst hi;simp [h2];exact h3
 .refine h.append ⟨by simp [h.1],fun i v w h1 h2=>?_⟩;rw [Array.getElem?_replicate] at h1 h2;split at h1
  .split at h2
   .cases h1;cases h2;exact undef_rel
   .cases h2
  .cases h1
def trap (P : Program) : Frame := { fn := P.funcs.size, tmps := #[], todo := [.code (.refuse "")], defers := [⟨.nil, #[]⟩], mode := .run, kind := .normal }
inductive CsRel (P:Program) (L:Lim) (K:List Item) (rc:List Frame) (β:Bl):List Frame→List Frame→Prop
 | base:CsRel P L K rc β [trap P] rc
 | cons {a b:Frame} {as1 bs:List Frame} (h:FRel P L K β a b) (he:AtOp a) (hs:CsRel P L K rc β as1 bs):CsRel P L K rc β (a :: as1) (b :: bs)
theorem CsRel.mono {rc:List Frame} (hl:Bl.Le β γ) {as1 bs:List Frame} (h:CsRel P L K rc β as1 bs):CsRel P L K rc γ as1 bs:=by
 induction h with
 | base=>exact .base
 | cons h he _ ih=>exact .cons (h.mono hl) he ih
inductive DoomCs (P:Program):List Frame→Prop
 | base:DoomCs P [trap P]
 | cons {f:Frame} {cs:List Frame} (hd:f.defers=[]) (hf:∃ fn,P.funcs[f.fn]?=some fn) (hs:DoomCs P cs):DoomCs P (f :: cs)
def Doomed (P:Program) (g:Goroutine):Prop:=g.status=.running∧g.dying=none ∧
 ((g.callers = [] ∧ g.frame.defers = [⟨.nil, #[]⟩] ∧ ((g.frame.mode = .run ∧ g.frame.todo = [.code (.refuse "")]) ∨ ∃ c, g.frame.mode = .panicking c)) ∨
  ((∃ c,g.frame.mode=.panicking c)∧g.frame.defers=[]∧(∃ fn,P.funcs[g.frame.fn]?=some fn)∧DoomCs P g.callers))
theorem CsRel.doom {rc as1 bs:List Frame} (h:CsRel P L K rc β as1 bs):DoomCs P as1:=by
 induction h with
 | base=>exact .base
 | cons h _ _ ih=>exact .cons h.da h.isF ih
theorem doomed_step {g:Goroutine} (h:Doomed P g) (main:Bool) (w:World):(∃ o v' es,stepG P main g w=.ended o v' es)∨∃ g',stepG P main g w=.go g' w #[]∧Doomed P g':=by
 obtain ⟨h1,h3,h⟩:=h;obtain ⟨f,cs,st,d,of⟩:=g;simp only at h1 h3 h;subst h1;subst h3;obtain ⟨fn,tm,td,df,md,kd,ro⟩:=f;simp only at h;rcases h with ⟨rfl,rfl,⟨rfl,rfl⟩ | ⟨c,rfl⟩⟩ | ⟨⟨c,rfl⟩,rfl,⟨fnc,hfn⟩,hcs⟩
 .exact .inl ⟨_,_,_,by simp [stepG,stepG.exec];exact ⟨rfl,rfl,rfl⟩⟩
 .exact .inl ⟨_,_,_,by simp [stepG,unwind,callDeferred];exact ⟨rfl,rfl,rfl⟩⟩
 .have hc:Frame.catches P { fn:=fn,tmps:=tm,todo:=td,defers:=[],mode:=.panicking c,kind:=kd,roundOf:=ro }=false:=by unfold Frame.catches;simp only [hfn]
  have e0:stepG P main { frame:={ fn:=fn,tmps:=tm,todo:=td,defers:=[],mode:=.panicking c,kind:=kd,roundOf:=ro },callers:=cs,status:=.running,dying:=none,offers:=of } w =
   unwind P main { fn:=fn,tmps:=tm,todo:=td,defers:=[],mode:=.panicking c,kind:=kd,roundOf:=ro } cs none w:=rfl
  rw [e0];unfold unwind;simp only [hc,Bool.false_eq_true,if_false];cases hcs with
  | base=>exact .inr ⟨_,rfl,rfl,rfl,.inl ⟨rfl,rfl,.inr ⟨c,rfl⟩⟩⟩
  | @cons f cs hd hf hs=>
   obtain ⟨e,he⟩:=raise_eq f c;exact .inr ⟨_,rfl,rfl,rfl,.inr ⟨⟨e,by rw [he]⟩,by rw [he];exact hd,by rw [he];exact hf,hs⟩⟩
end
section
variable {P:Program} {L:Lim} {K:List Item} {β γ:Bl} {a b:Frame}
structure GRel (P:Program) (L:Lim) (K:List Item) (rc:List Frame) (β:Bl) (g h:Goroutine):Prop where
 fr:FRel P L K β g.frame h.frame
 cs:CsRel P L K rc β g.callers h.callers
 sg:g.status=.running
 sh:h.status=.running
 dg:g.dying=none
 dh:h.dying=none
theorem seen_sub (fn:FuncId) (es:Array Event):∀ x∈seen P fn es,x∈es:=by
 unfold seen;dsimp only;rw [← Array.foldl_toList];have gen:∀ (f:Bool×Array Event→Event→Bool×Array Event),(∀ s e,∀ x∈(f s e).2,x∈s.2∨x=e)→∀ (l:List Event) (s:Bool×Array Event),∀ x∈(l.foldl f s).2,x∈s.2∨x∈l:=by
  intro f hf l
  induction l with
  | nil=>exact fun s x hx=>.inl hx
  | cons e l ih=>
   intro s x hx;rcases ih (f s e) x hx with h | h
   .rcases hf s e x h with h | h
    .exact .inl h
    .exact .inr (h ▸ List.mem_cons_self)
   .exact .inr (List.mem_cons_of_mem _ h)
 intro x hx;have:=gen _ ?_ es.toList _ x hx
 .rcases this with h | h
  .simp at h
  .simpa using h
 .rintro ⟨q,kept⟩ e y hy;dsimp only at hy ⊢;split at hy
  .exact .inl hy
  .dsimp only at hy;split at hy
   .exact .inl hy
   .rcases Array.mem_push.1 hy with h | h
    .exact .inl h
    .exact .inr h
theorem apply_rel (hF:FnsOK P L) {s t:Sem Next} (hs:SRel P L (RN L) β s t) (h:FRel P L K β a b) {rc:List Frame} {as1 bs:List Frame} (hc:CsRel P L K rc β as1 bs) {v w:World} (hw:WRel L β v w) (ha:Agree v w) {ops:Array Oper} {i:Nat} {rest:List Nat} {k:List Item}
 (e:a.todo=.inRegion ops (i :: rest) :: k):∀ g v' es,stepG.apply P true a as1 none s v=.go g v' es→Doomed P g∨∃ γ g' w' fs,stepG.apply P true b bs none t w=.go g' w' fs∧Foot L β γ v w v' w'∧GRel P L K rc γ g g'∧∀ x∈fs,EvOk γ x:=by
 have hr:=hs.run hw ha;have hat:AtOp a:=⟨_,_,_,_,e⟩;obtain ⟨l,e2⟩:∃ l,b.todo=.inRegion ops (i :: rest) :: l:=by
  rcases h.todo.inv with ⟨e1,_⟩ | ⟨e1,_⟩ | ⟨x,k2,l2,e1,e2,_,_⟩ | ⟨_,_,_,_,e1,_⟩
  case inr.inr.inr=>rw [e] at e1;cases e1
  .rw [e1] at e;cases e
  .rw [e1] at e;cases e
  .rw [e1] at e;cases e;exact ⟨_,e2⟩
 intro g v' es hgo;unfold stepG.apply at hgo ⊢;simp only [Sem.runT_eq,if_true,e,e2,h.ka,h.kb] at hgo ⊢
 skip
 cases hrun:s.run P v with
 | ok x v1=>
  rw [hrun] at hr hgo;obtain ⟨γ,y,w1,k1,F,hn,hev⟩:=hr;rw [k1];have hE:∀ x∈t.events P w #[],EvOk γ x:=fun x hx=>(hev #[] x hx).resolve_left (by simp);cases hn with
  | value hv=>
   simp only [GStep.after] at hgo ⊢;injection hgo with g1 g2 g3
   subst g1;subst g2;refine .inr ⟨γ,_,_,_,rfl,F,⟨(h.mono F.le).finish hat hv,hc.mono F.le,rfl,rfl,rfl,rfl⟩,fun x hx=>hE x (seen_sub _ _ x (by simpa using hx))⟩
  | skip=>
   simp only [GStep.after] at hgo ⊢;injection hgo with g1 g2 g3
   subst g1;subst g2;refine .inr ⟨γ,_,_,_,rfl,F,⟨(h.mono F.le).finish hat undef_rel,hc.mono F.le,rfl,rfl,rfl,rfl⟩,fun x hx=>hE x (seen_sub _ _ x (by simpa using hx))⟩
  | enter f hf hv=>
   simp only [GStep.after] at hgo ⊢;injection hgo with g1 g2 g3
   subst g1;subst g2;refine .inr ⟨γ,_,_,_,rfl,F,⟨enter_rel hF hf hv,.cons (h.mono F.le) hat (hc.mono F.le),rfl,rfl,rfl,rfl⟩,fun x hx=>hE x (seen_sub _ _ x (by simpa using hx))⟩
 | halt x v1=>
  rw [hrun] at hr hgo;cases x with
  | panic x=>
   simp only [GStep.after] at hgo;injection hgo with g1 g2 g3
   subst g1;obtain ⟨e,he⟩:=raise_eq a [{ v:=x,recovered:=false }];exact .inl ⟨rfl,rfl,.inr ⟨⟨e,by rw [he]⟩,by rw [he];exact h.da,by rw [he];exact h.isF,hc.doom⟩⟩
  | unsupported u=>cases u<;>first | (simp only [GStep.after] at hgo;cases hgo;done) | (cases hr;done)
  | stuck s=>simp only [GStep.after] at hgo;cases hgo
  | _=>cases hr
end
section
variable {P:Program} {L:Lim} {K:List Item} {β γ:Bl} {a b:Frame} {rc:List Frame}
def SOut (P:Program) (L:Lim) (K:List Item) (rc:List Frame) (β:Bl) (v w:World) (x y:GStep):Prop:=
 (∃ o v' es,x=.ended o v' es)∨(∃ g' v' es,x=.go g' v' es∧(Doomed P g'∨∃ γ h' w' fs,y=.go h' w' fs∧Foot L β γ v w v' w'∧GRel P L K rc γ g' h'∧∀ e∈fs,EvOk γ e))
theorem SOut.same {v w:World} (hw:WRel L β v w) (ha:Agree v w) {g h:Goroutine} (hG:GRel P L K rc β g h):SOut P L K rc β v w (.go g v) (.go h w):=
 .inr ⟨_,_,_,rfl,.inr ⟨β,_,_,_,rfl,Foot.refl hw ha,hG,by simp⟩⟩
theorem yielded_rel (ops:Array Oper) {as1 bs:Array Value} (h:VsRel L β as1 bs) (j:Nat):yielded ops bs j=yielded ops as1 j:=by
 unfold yielded;cases hd:(ops[j]?).bind (·.dst) with
 | none=>rfl
 | some d=>
  simp only [Option.bind_some];cases hv:as1[d]? with
  | none=>rw [h.none hv]
  | some v=>
   obtain ⟨w,hw,hr⟩:=h.get hv;rw [hw];cases hr with
   | poison ho=>
    cases w with
    | bool b=>exact absurd rfl (ho.2.2 b)
    | _=>rfl
   | _=>rfl
theorem rel_mapMV {A:Type} {f g:A→Sem Value}:∀ (l:List A) (β:Bl),(∀ r∈l,∀ γ,Bl.Le β γ→SRel P L (RV L) γ (f r) (g r))→SRel P L (fun γ x y=>LRel L γ x y) β (l.mapM f) (l.mapM g)
 | [],β,h=>.pure .nil
 | r :: l,β,h=>by
  rw [List.mapM_cons,List.mapM_cons];exact SRel.bnd (h r List.mem_cons_self β (Bl.Le.refl _)) fun γ hl x y hxy=>
   SRel.bnd (rel_mapMV l γ fun r hr δ hl2=>h r (List.mem_cons_of_mem _ hr) δ (hl.trans hl2)) fun δ hl2 xs ys hs=>.pure (.cons (hxy.mono hl2) hs)
theorem rel_results (fn:Func) {as1 bs:Array Value} (h:VsRel L β as1 bs):SRel P L (RV L) β (results fn as1) (results fn bs):=by
 unfold results;have hD:∀ t,VRel L β (as1.getD t undef) (bs.getD t undef):=fun t=>by
  rw [Array.getD_eq_getD_getElem?,Array.getD_eq_getD_getElem?];cases hv:as1[t]? with
  | none=>rw [h.none hv];exact undef_rel
  | some v=>
   obtain ⟨w,hw,hr⟩:=h.get hv;rw [hw];exact hr
 rw [Array.mapM_eq_mapM_toList,Array.mapM_eq_mapM_toList];refine SRel.bnd (R:=fun γ x y=>VsRel L γ x y) ?_ fun γ hl x y hxy=>?_
 .have:=rel_mapMV (P:=P) (L:=L) (f:=fun x:ResultVar=>match x with | .tmp t=>(Pure.pure (as1.getD t undef):Sem Value) | .cell a t=>do loadVar t (← asAddr (as1.getD a undef)))
   (g:=fun x:ResultVar=>match x with | .tmp t=>(Pure.pure (bs.getD t undef):Sem Value) | .cell a t=>do loadVar t (← asAddr (bs.getD a undef))) fn.results.toList β fun r _ γ hl=>by
   cases r with
   | tmp t=>exact .pure ((hD t).mono hl)
   | cell a t=>exact SRel.bnd (rel_asAddr ((hD a).mono hl)) fun δ hl2 x y hxy=>rel_loadVar t hxy
  exact SRel.bnd this fun γ hl x y hxy=>.pure (R:=fun γ x y=>VsRel L γ x y) hxy.vs
 have hsz:=hxy.1;by_cases h1:x.size=1
 .rw [dif_pos h1,dif_pos (hsz ▸ h1)];exact .pure (hxy.2 0 _ _ (by simp) (by simp))
 .rw [dif_neg h1,dif_neg (hsz ▸ h1)];exact .pure (.tuple hxy.1 hxy.2)
end

