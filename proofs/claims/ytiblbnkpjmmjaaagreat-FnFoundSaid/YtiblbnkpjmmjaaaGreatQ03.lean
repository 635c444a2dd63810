/- -/
import Derived.Test.YtiblbnkpjmmjaaaGreatQ02
set_option maxRecDepth 100000
set_option maxHeartbeats 16000000
set_option linter.all false
namespace Go.Proofs.YtiblbnkpjmmjaaaGreat
open Go.Conc
section
variable {P:Program} {L:Lim} {α α':Type} {R:Bl→α→α→Prop} {R':Bl→α'→α'→Prop} {β γ:Bl}
theorem rel_makeSlice (hP:PL P L) {x y u v:Value} (t:TypeId) (ht:ZE P t) (h:VRel L β x y) (k:VRel L β u v):SRel P L (RV L) β (Instr.makeSlice t x u) (Instr.makeSlice t y v):=by
 unfold Instr.makeSlice;refine SRel.bnd (same_underP t) fun γ hl d d' e0=>?_;obtain ⟨rfl,e0⟩:=e0;cases d with
 | slice elem=>
  refine SRel.bnd (rel_asInt' (h.mono hl)) fun γ2 hl2 a b e=>?_;subst e;refine SRel.bnd (rel_asInt' ((k.mono hl).mono hl2)) fun γ3 hl3 c b e=>?_;subst e;refine SameC.b (same_info _) fun γ4 hl4 i=>?_;dsimp only
  have fin:∀ (γ:Bl) (n m:Nat) (cap len:Nat),SRel P L (RV L) γ
   (askRoom m >>= fun _=>sizeOf elem >>= fun s=>(if cap * s=0 then Pure.pure #[] >>= fun z=>newRow elem ((Array.range (cap * s)).map (z[· % z.size]!)) >>= fun a=>Pure.pure (Value.slice (some a) len cap) else zeroValue elem >>= fun l=>Pure.pure l.cells >>= fun z=>newRow elem ((Array.range (cap * s)).map (z[· % z.size]!)) >>= fun a=>Pure.pure (Value.slice (some a) len cap)))
   (askRoom m >>= fun _=>sizeOf elem >>= fun s=>(if cap * s=0 then Pure.pure #[] >>= fun z=>newRow elem ((Array.range (cap * s)).map (z[· % z.size]!)) >>= fun a=>Pure.pure (Value.slice (some a) len cap) else zeroValue elem >>= fun l=>Pure.pure l.cells >>= fun z=>newRow elem ((Array.range (cap * s)).map (z[· % z.size]!)) >>= fun a=>Pure.pure (Value.slice (some a) len cap))):=fun γ n m cap len=>by
   refine SRel.bnd (rel_room _) fun γ5 hl5 _ _ _=>SameC.b (same_size _) fun γ6 hl6 s=>?_;split
   .exact SRel.pureB (SRel.bnd (rel_newRow _ (zeros_rel VsRel.nil _)) fun _ _ a b hab=>.pure (.slice (a:=some a) (b:=some b) _ _ hab))
   .exact SRel.bnd (rel_zero hP _ (ht _ e0)) fun γ7 hl7 z z' hz=>SRel.pureB (SRel.bnd (rel_newRow _ (zeros_rel (VsRel.cells hz) _)) fun _ _ a b hab=>.pure (.slice (a:=some a) (b:=some b) _ _ hab))
  split
  .split
   .exact rel_errorB
   .split
    .exact rel_errorB
    .exact SRel.bnd (same_choose _ _) fun _ _ a b e=>by subst e;exact rel_errorB
  .exact fin _ 0 _ _ _
 | _=>exact .stuck
theorem same_guardNil (t:TypeId):∀ d:Nat,SameC P L (Op.eqGuardIn d t .nilIface .nilIface)
 | 0,β=>.unsup
 | d+1,β=>by
  unfold Op.eqGuardIn;refine SameC.b (same_underlying _) fun γ hl u=>?_;cases u<;>exact .pure rfl
theorem rel_eqGuard (op:BinOp) {t:TypeId} (hg:P.eqGuardType P.depth t=false) (x y:Operand) {a b c d:Value} (h:VRel L β a b) (k:VRel L β c d) (ha:¬ IsPz L.bad a) (hc:¬ IsPz L.bad c):SRel P L RU β (eqGuard op t x y a c) (eqGuard op t x y b d):=by
 have main:∀ op:BinOp,op=.eql∨op=.neq→SRel P L RU β (eqGuard op t x y a c) (eqGuard op t x y b d):=fun op ho=>by
  unfold eqGuard;have e1:(!(op matches .eql | .neq))=false:=by rcases ho with rfl | rfl<;>rfl
  rcases ho with rfl | rfl
  all_goals
   cases h with
   | poison=>exact absurd ⟨_,rfl⟩ ha
   | nilIface=>
    cases k with
    | poison=>exact absurd ⟨_,rfl⟩ hc
    | nilIface=>
     simp only [Bool.not_true,Bool.false_eq_true,if_false];have key:=same_guardNil (P:=P) (L:=L) t Op.maxDepth β
     cases x<;>cases y<;>first
      | exact SRel.pure (R:=RU) trivial
      | (refine SRel.bnd key fun γ hl a b e=>?_
         subst e;cases a
         .exact SRel.pure (R:=RU) trivial
         .exact .unsup)
    | _=>exact SRel.pure (R:=RU) trivial
   | agg h1 h2=>
    cases k with
    | poison=>exact absurd ⟨_,rfl⟩ hc
    | agg h3 h4=>
     simp only [Bool.not_true,Bool.false_eq_true,if_false];refine SRel.bnd same_programP fun γ hl p q e=>?_;obtain ⟨e1,e2⟩:=e;refine SRel.bnd same_programP fun γ hl p' q' e=>?_;obtain ⟨e3,e4⟩:=e;rw [e1,e2,e3,e4,hg];exact SRel.pure (R:=RU) trivial
    | _=>exact SRel.pure (R:=RU) trivial
   | _=>
    cases k with
    | poison=>exact absurd ⟨_,rfl⟩ hc
    | _=>exact SRel.pure (R:=RU) trivial
 cases op<;>first | exact main _ (.inl rfl) | exact main _ (.inr rfl) | exact SRel.pure (R:=RU) (a:=()) (b:=()) trivial
end
section
variable {P:Program} {L:Lim} {α α':Type} {R:Bl→α→α→Prop} {R':Bl→α'→α'→Prop} {β γ:Bl}
theorem rel_asNumber {a b:Addr} (l:Bool) (h:ARel L β a b):SRel P L (RV L) β (asNumber a l) (asNumber b l):=
 SRel.bnd (R:=fun γ r s=>γ r=some s∧L.g≤r∧L.g≤s) (.new (.number l h) fun γ hl r s e eg=>.pure ⟨e,eg⟩) fun γ hl r s e=>.pure (.pointer (a:=some _) (b:=some _) ⟨e.1,rfl,rfl,e.2⟩)
theorem rel_unsafeAdd {p q:Option Addr} {x y:Value} (t:TypeId) (h:OARel L β p q) (k:VRel L β x y):SRel P L (fun γ a b=>∃ p q,a=.pointer p∧b=.pointer q∧OARel L γ p q) β (Builtin.unsafeAdd_ #[] t #[.pointer p,x]) (Builtin.unsafeAdd_ #[] t #[.pointer q,y]):=by
 unfold Builtin.unsafeAdd_;refine SRel.bnd (rel_asInt' k) fun γ hl n n' e=>?_;subst e;have h2:=OARel.mono hl h;dsimp only;cases p with
 | none=>cases q with
  | none=>
   split
   .exact .unsup
   .split
    .exact .unsupB
    .exact .unsup
  | some _=>exact h.elim
 | some a=>cases q with
  | none=>exact h.elim
  | some b=>
   split
   .refine SRel.bnd (rel_viewAt h2.1) fun γ2 hl2 x y hxy=>?_;obtain ⟨rfl,rfl⟩:=hxy;exact .pure ⟨_,_,rfl,rfl,OARel.mono hl2 h2⟩
   .split
    .exact .unsupB
    .refine SRel.bnd (rel_shape h2.1) fun γ2 hl2 x y e=>?_;subst e;cases x with
     | none=>exact .unsup
     | some x=>
      obtain ⟨e,cells⟩:=x;refine SRel.bnd same_programP fun γ3 hl3 p q e1=>?_;obtain ⟨rfl,e2⟩:=e1;subst e2;have h3:ARel L γ3 a b:=(ARel.mono hl2 h2).mono hl3;rw [h3.2.1];split
      .exact .pure ⟨some _,some _,rfl,rfl,⟨h3.1,rfl,h3.2.2⟩⟩
      .exact .unsup
theorem rel_movedNumber {x y u v:Value} (t:TypeId) (h:VRel L β x y) (hx:∃ p,x=.pointer p) (k:VRel L β u v):SRel P L (RV L) β (movedNumber t x u) (movedNumber t y v):=by
 obtain ⟨p,rfl⟩:=hx;cases h with
 | @pointer _ q h=>
  unfold movedNumber;refine SameC.b (same_underlying _) fun γ hl d=>?_;have hh:=OARel.mono hl h;have kk:=k.mono hl;cases p with
  | none=>cases q with
   | none=>
    have main:=(rel_unsafeAdd (P:=P) t (p:=none) (q:=none) hh kk).imp (Q:=RV L) fun γ a b ⟨p,q,e1,e2,h⟩=>by subst e1;subst e2;exact .pointer h
    cases d<;>first | exact .unsupB | exact main
   | some _=>exact h.elim
  | some a=>cases q with
   | none=>exact h.elim
   | some b=>
    have main:SRel P L (RV L) γ (do let (a',lost) ← behindNumber a;match ← Builtin.unsafeAdd_ #[] t #[.pointer (some a'),u] with | .pointer (some b)=>asNumber b lost | v=>Pure.pure v)
     (do let (a',lost) ← behindNumber b;match ← Builtin.unsafeAdd_ #[] t #[.pointer (some a'),v] with | .pointer (some b)=>asNumber b lost | v=>Pure.pure v):=by
     refine SRel.bnd (rel_behind hh) fun γ2 hl2 r s hrs=>?_;obtain ⟨r1,r2⟩:=r;obtain ⟨s1,s2⟩:=s;obtain ⟨h5,h6⟩:=hrs;cases h6;refine SRel.bnd (rel_unsafeAdd t (p:=some _) (q:=some _) h5 (kk.mono hl2)) fun γ3 hl3 z z' hz=>?_;obtain ⟨p,q,rfl,rfl,h7⟩:=hz;cases p<;>cases q<;>first | exact rel_asNumber _ h7 | exact .pure (.pointer h7) | exact absurd h7 (by simp [OARel])
    cases d<;>first | exact .unsupB | exact main
theorem addr_ext {a b:Addr} (h1:a.block=b.block) (h2:a.off=b.off) (h3:a.spot=b.spot):a=b:=by
 obtain ⟨_,_,_⟩:=a;obtain ⟨_,_,_⟩:=b;simp only at h1 h2 h3;subst h1;subst h2;subst h3;rfl
def TOK (P:Program) (t:TypeId):Prop:=(∃ k,P.underlying t=some (.int k))∨(∃ e,P.underlying t=some (.slice e))∨P.underlying t=some .bool
theorem rel_equalIn (dp:Nat) (hg:P.globals.size≤L.g) {t:TypeId} (ht:TOK P t) {x y u v:Value} (h:VRel L β x y) (k:VRel L β u v):SRel P L RElt β (Op.equalIn (dp+1) t x u) (Op.equalIn (dp+1) t y v):=by
 unfold Op.equalIn;refine SRel.bnd (same_underP t) fun γ hl a b e=>?_;obtain ⟨rfl,e1⟩:=e;have hx:=h.mono hl;have hu:=k.mono hl;clear h k;rcases ht with ⟨kk,ht⟩ | ⟨e,ht⟩ | ht<;>rw [ht] at e1<;>cases e1
 .cases hx with
  | int k n=>
   cases hu with
   | int k' n'=>
    dsimp only;split
    .exact .pure rfl
    .exact .stuck
   | @pointer p q h=>
    cases p with
    | none=>cases q with
     | none=>exact .unsup
     | some _=>exact h.elim
    | some a=>cases q with
     | none=>exact h.elim
     | some b=>
      cases n with
      | ofNat m=>cases m with
       | zero=>exact .pure rfl
       | succ m=>exact .unsup
      | negSucc m=>exact .unsup
   | _=>exact .stuck
  | @pointer p q h=>
   cases p with
   | none=>cases q with
    | none=>cases hu<;>exact .unsup
    | some _=>exact h.elim
   | some a=>cases q with
    | none=>exact h.elim
    | some b=>
     cases hu with
     | int k n=>
      cases n with
      | ofNat m=>cases m with
       | zero=>exact .pure rfl
       | succ m=>exact .unsup
      | negSucc m=>exact .unsup
     | @pointer p' q' h'=>
      cases p' with
      | none=>cases q' with
       | none=>exact .unsup
       | some _=>exact h'.elim
      | some a'=>cases q' with
       | none=>exact h'.elim
       | some b'=>
        refine SRel.bnd (rel_behind h) fun γ2 hl2 r s hrs=>SRel.bnd (rel_behind (ARel.mono hl2 h')) fun γ3 hl3 r' s' hrs'=>?_;have h1:=ARel.mono hl3 hrs.1;have h2:=hrs'.1;refine SRel.bnd same_programP fun γ4 hl4 p q e=>?_;obtain ⟨e1,e2⟩:=e;rw [e1,e2];have l1:decide (r.1.block < P.globals.size)=false:=by have:=h1.2.2.2.1;simp;omega
        have l2:decide (s.1.block < P.globals.size)=false:=by have:=h1.2.2.2.2;simp;omega
        simp only [l1,l2,Bool.and_false,Bool.false_eq_true,if_false];refine SameC.b (same_info _) fun γ5 hl5 i=>?_;split
        .by_cases e:r.1=r'.1
         .have e':s.1=s'.1:=by
           have k1:=h1.1;have k2:=h2.1;rw [e,k2] at k1;have k3:=Option.some.inj k1;have k4:=h1.2.1.symm.trans ((congrArg Addr.off e).trans h2.2.1);have k5:=h1.2.2.1.symm.trans ((congrArg Addr.spot e).trans h2.2.2.1);exact addr_ext k3.symm k4 k5
          rw [if_pos (show (r.1 == r'.1)=true by simpa using e),if_pos (show (s.1 == s'.1)=true by simpa using e')];exact .pure rfl
         .rw [if_neg (show ¬ (r.1 == r'.1)=true by simpa using e)];exact .unsup
        .exact .unsup
     | _=>exact .unsup
  | _=>
   cases hu with
   | @pointer p q h=>cases p<;>cases q<;>first | exact .unsup | exact .stuck | exact absurd h (by simp [OARel])
   | _=>exact .stuck
 .cases hx with
  | @slice p q n c h=>
   cases p with
   | none=>cases q with
    | none=>
     cases hu with
     | @slice p' q' n' c' h'=>cases p'<;>cases q'<;>first | exact .pure rfl | exact h'.elim
     | sliceZ a' h'=>exact .pure rfl
     | _=>exact .stuck
    | some _=>exact h.elim
   | some a=>cases q with
    | none=>exact h.elim
    | some b=>
     cases hu with
     | @slice p' q' n' c' h'=>cases p'<;>cases q'<;>first | exact .pure rfl | exact .stuck | exact h'.elim
     | _=>exact .stuck
  | sliceZ a ha=>
   cases hu with
   | @slice p' q' n' c' h'=>cases p'<;>cases q'<;>first | exact .pure rfl | exact .stuck | exact h'.elim
   | _=>exact .stuck
  | _=>cases hu<;>exact .stuck
 .cases hx with
  | bool b=>
   cases hu with
   | bool c=>exact .pure rfl
   | _=>exact .stuck
  | _=>cases hu<;>exact .stuck
theorem rel_equal (hg:P.globals.size≤L.g) {t:TypeId} (ht:TOK P t) {x y u v:Value} (h:VRel L β x y) (k:VRel L β u v):SRel P L RElt β (Op.equal t x u) (Op.equal t y v):=rel_equalIn 9999 hg ht h k
end
section
variable {P:Program} {L:Lim} {α α':Type} {R:Bl→α→α→Prop} {R':Bl→α'→α'→Prop} {β γ:Bl}
theorem rel_string (op:BinOp) (a b:ByteArray):SRel P L (RV L) β (Op.stringOp op a b) (Op.stringOp op a b):=by
 cases op<;>first
  | exact .stuck
  | exact SRel.pure (R:=RV L) (VRel.bool _)
  | (unfold Op.stringOp
     dsimp only;split
     .exact .unsup
     .exact SRel.pure (R:=RV L) (VRel.string _))
theorem dead_equal {t:TypeId} (ht:TOK P t) {x u:Value} (h:IsPz L.bad x∨IsPz L.bad u) (w:World):∃ e w',(Op.equal t x u).run P w=.halt e w'∧qh e=true:=by
 have hu:∀ d,P.underlying t=some d→(underlying t).run P w=.ok d w:=fun d hd=>by
  unfold underlying;rw [Sem.run_bind]
  show ((match P.underlying t with | some d => Pure.pure d | none => Go.stuck "no such type" : Sem TypeDesc).run P w) = _;rw [hd];rfl
 unfold Op.equal;show ∃ e w',(Op.equalIn (9999+1) t x u).run P w=.halt e w'∧_;unfold Op.equalIn;rw [Sem.run_bind];rcases ht with ⟨kk,ht⟩ | ⟨e,ht⟩ | ht<;>rw [hu _ ht]<;>rcases h with ⟨z,rfl⟩ | ⟨z,rfl⟩
 .cases u with
  | pointer a=>cases a<;>exact ⟨_,_,rfl,rfl⟩
  | _=>exact ⟨_,_,rfl,rfl⟩
 .cases x with
  | pointer a=>cases a<;>exact ⟨_,_,rfl,rfl⟩
  | _=>exact ⟨_,_,rfl,rfl⟩
 .cases u<;>exact ⟨_,_,rfl,rfl⟩
 .cases x with
  | slice a n c=>cases a<;>exact ⟨_,_,rfl,rfl⟩
  | _=>exact ⟨_,_,rfl,rfl⟩
 .cases u<;>exact ⟨_,_,rfl,rfl⟩
 .cases x<;>exact ⟨_,_,rfl,rfl⟩
theorem SRel.deadB {x:Sem α} {f:α→Sem α'} {u:Sem α'} (h:∀ w,∃ e w',x.run P w=.halt e w'∧qh e=true):SRel P L R' β (x >>= f) u:=.dead fun w=>by
 obtain ⟨e,w',h1,h2⟩:=h w;refine ⟨e,w',?_,h2⟩;rw [Sem.run_bind,h1];rfl
def BOK (op:BinOp):Prop:=op=.add∨op=.sub∨op=.mul∨op=.lss∨op=.leq∨op=.gtr∨op=.geq
theorem rel_binEq (hg:P.globals.size≤L.g) {t:TypeId} (ht:TOK P t) {x y u v:Value} (h:VRel L β x y) (k:VRel L β u v):SRel P L (RV L) β (binOp .eql t x u) (binOp .eql t y v)∧SRel P L (RV L) β (binOp .neq t x u) (binOp .neq t y v):=by
 have e1:SRel P L (RV L) β (Op.equal t x u >>= fun b=>Pure.pure (.bool b)) (Op.equal t y v >>= fun b=>Pure.pure (.bool b)):=SRel.bnd (rel_equal hg ht h k) fun _ _ a b e=>by subst e;exact .pure (.bool _)
 have e2:SRel P L (RV L) β (Op.equal t x u >>= fun b=>Pure.pure (.bool (!b))) (Op.equal t y v >>= fun b=>Pure.pure (.bool (!b))):=SRel.bnd (rel_equal hg ht h k) fun _ _ a b e=>by subst e;exact .pure (.bool _)
 by_cases hp:IsPz L.bad x∨IsPz L.bad u
 .have d1:∀ y:Sem Value,SRel P L (RV L) β (binOp .eql t x u) y:=fun y=>by
   have:=SRel.deadB (P:=P) (L:=L) (R':=RV L) (β:=β) (f:=fun b=>Pure.pure (Value.bool b)) (u:=y) (dead_equal ht hp);rcases hp with ⟨z,rfl⟩ | ⟨z,rfl⟩
   .cases u<;>exact this
   .cases x<;>exact this
  have d2:∀ y:Sem Value,SRel P L (RV L) β (binOp .neq t x u) y:=fun y=>by
   have:=SRel.deadB (P:=P) (L:=L) (R':=RV L) (β:=β) (f:=fun b=>Pure.pure (Value.bool (!b))) (u:=y) (dead_equal ht hp);rcases hp with ⟨z,rfl⟩ | ⟨z,rfl⟩
   .cases u<;>exact this
   .cases x<;>exact this
  exact ⟨d1 _,d2 _⟩
 .have ha:¬ IsPz L.bad x:=fun e=>hp (.inl e);have hc:¬ IsPz L.bad u:=fun e=>hp (.inr e);cases h with
  | poison=>exact absurd ⟨_,rfl⟩ ha
  | int k1 n1=>
   cases k with
   | poison=>exact absurd ⟨_,rfl⟩ hc
   | int k2 n2=>constructor<;>(unfold binOp;dsimp only;split<;>first | exact .stuck | exact SRel.pure (R:=RV L) (VRel.bool _))
   | _=>exact ⟨e1,e2⟩
  | string s=>
   cases k with
   | poison=>exact absurd ⟨_,rfl⟩ hc
   | string s2=>exact ⟨rel_string .eql s s2,rel_string .neq s s2⟩
   | _=>exact ⟨e1,e2⟩
  | _=>
   cases k with
   | poison=>exact absurd ⟨_,rfl⟩ hc
   | _=>exact ⟨e1,e2⟩
theorem dead_two {a c:Addr} (ha:P.globals.size≤a.block) (w:World):∃ e w',(Op.twoPlaces a c).run P w=.halt e w'∧qh e=true:=by
 unfold Op.twoPlaces;rw [Sem.run_bind];show ∃ e w',(Sem.run P (if (a.block != c.block || decide (a.block ≥ P.globals.size))=true then _ else _) w)=.halt e w'∧_;rw [if_pos (by simp;omega)];exact ⟨_,_,rfl,rfl⟩
theorem rel_ptrs (hg:P.globals.size≤L.g) {a b c d:Addr} (h:ARel L β a b) (h2:ARel L β c d) {f g:Addr→Addr→Sem Value} (hf:∀ a c,P.globals.size≤a.block→∀ u,∀ γ,SRel P L (RV L) γ (f a c) u) :
 SRel P L (RV L) β (behindNumber a >>= fun r=>behindNumber c >>= fun s=>f r.1 s.1) (behindNumber b >>= fun r=>behindNumber d >>= fun s=>g r.1 s.1):=
 SRel.bnd (rel_behind h) fun γ hl r s hrs=>SRel.bnd (rel_behind (h2.mono hl)) fun δ hl2 r' s' hrs'=>hf _ _ (by have:=hrs.1.2.2.2.1;omega) _ _
theorem dead_sub {a c:Addr} (ha:P.globals.size≤a.block) (u:Sem Value) (γ:Bl):SRel P L (RV L) γ (Op.addrSub .u64 a c) u:=SRel.deadB (dead_two ha)
theorem dead_cmp (op:BinOp) {a c:Addr} (ha:P.globals.size≤a.block) (u:Sem Value) (γ:Bl):SRel P L (RV L) γ (Op.addrCmp op a c) u:=SRel.deadB (dead_two ha)
theorem rel_binArith (hg:P.globals.size≤L.g) {op:BinOp} (ho:BOK op) {t:TypeId} (ht:TOK P t) {x y u v:Value} (h:VRel L β x y) (k:VRel L β u v):SRel P L (RV L) β (binOp op t x u) (binOp op t y v):=by
 have hadd:∀ p q:Option Addr,OARel L β p q→∀ (kk:IntKind) (n:Int),SRel P L (RV L) β (binOp .add t (.pointer p) (.int kk n)) (binOp .add t (.pointer q) (.int kk n)):=fun p q hpq kk n=>by
  refine SRel.bnd (same_underP t) fun γ hl d d' e=>?_;obtain ⟨rfl,e1⟩:=e;have main2:=rel_movedNumber (P:=P) t (.pointer (OARel.mono hl hpq)) ⟨_,rfl⟩ (.int kk n:VRel L γ _ _);rcases ht with ⟨k2,ht⟩ | ⟨e,ht⟩ | ht<;>rw [ht] at e1<;>cases e1<;>exact main2
 cases h with
 | int k1 n1=>
  cases k with
  | int k2 n2=>
   rcases ho with rfl | rfl | rfl | rfl | rfl | rfl | rfl<;>(unfold binOp;dsimp only;split<;>first | exact .stuck | exact SRel.pure (R:=RV L) (VRel.int _ _) | exact SRel.pure (R:=RV L) (VRel.bool _))
  | @pointer p q h=>
   rcases ho with rfl | rfl | rfl | rfl | rfl | rfl | rfl<;>first | exact .unsup | exact rel_movedNumber t (.pointer h) ⟨_,rfl⟩ (.int k1 n1)
  | _=>rcases ho with rfl | rfl | rfl | rfl | rfl | rfl | rfl<;>exact .stuck
 | @pointer p q h=>
  cases k with
  | int k2 n2=>
   rcases ho with rfl | rfl | rfl | rfl | rfl | rfl | rfl<;>first | exact hadd p q h k2 n2 | exact rel_movedNumber t (.pointer h) ⟨_,rfl⟩ (.int k2 (-n2)) | (cases p<;>cases q<;>first | exact .unsup | exact h.elim)
  | @pointer p' q' h'=>
   cases p with
   | none=>cases q with
    | none=>rcases ho with rfl | rfl | rfl | rfl | rfl | rfl | rfl<;>cases p'<;>cases q'<;>first | exact .unsup | exact h'.elim
    | some _=>exact h.elim
   | some a=>cases q with
    | none=>exact h.elim
    | some b=>cases p' with
     | none=>cases q' with
      | none=>rcases ho with rfl | rfl | rfl | rfl | rfl | rfl | rfl<;>exact .unsup
      | some _=>exact h'.elim
     | some c=>cases q' with
      | none=>exact h'.elim
      | some d=>
       rcases ho with rfl | rfl | rfl | rfl | rfl | rfl | rfl<;>first
        | exact .unsup
        | exact rel_ptrs hg h h' fun a c ha u γ=>dead_sub ha u γ
        | exact rel_ptrs hg h h' fun a c ha u γ=>dead_cmp _ ha u γ
  | _=>rcases ho with rfl | rfl | rfl | rfl | rfl | rfl | rfl<;>cases p<;>cases q<;>first | exact .unsup | exact h.elim
 | string s=>
  cases k with
  | string s2=>rcases ho with rfl | rfl | rfl | rfl | rfl | rfl | rfl<;>first | exact rel_string .add s s2 | exact rel_string .sub s s2 | exact rel_string .mul s s2 | exact rel_string .lss s s2 | exact rel_string .leq s s2 | exact rel_string .gtr s s2 | exact rel_string .geq s s2
  | pointer h=>rcases ho with rfl | rfl | rfl | rfl | rfl | rfl | rfl<;>exact .unsup
  | _=>rcases ho with rfl | rfl | rfl | rfl | rfl | rfl | rfl<;>exact .stuck
 | _=>
  cases k with
  | pointer h=>rcases ho with rfl | rfl | rfl | rfl | rfl | rfl | rfl<;>exact .unsup
  | _=>rcases ho with rfl | rfl | rfl | rfl | rfl | rfl | rfl<;>exact .stuck
end
section
variable {P:Program} {L:Lim} {α α':Type} {R:Bl→α→α→Prop} {R':Bl→α'→α'→Prop} {β γ:Bl}
def Tame (P:Program) {α:Type} (s:Sem α):Prop:=∀ w,(∃ a w',s.run P w=.ok a w')∨∃ e w',s.run P w=.halt e w'∧qh e=true
def Halts (P:Program) {α:Type} (s:Sem α):Prop:=∀ w,∃ e w',s.run P w=.halt e w'∧qh e=true
theorem Tame.ret (a:α):Tame P (Pure.pure a):=fun w=>.inl ⟨_,_,rfl⟩
theorem Tame.stuck (s:String):Tame P (Go.stuck s:Sem α):=fun w=>.inr ⟨.stuck s,_,rfl,rfl⟩
theorem Tame.bnd {s:Sem α} {f:α→Sem α'} (h:Tame P s) (hf:∀ a,Tame P (f a)):Tame P (s >>= f):=fun w=>by
 rw [Sem.run_bind];rcases h w with ⟨a,w',h1⟩ | ⟨e,w',h1,h2⟩
 .rw [h1];exact hf a w'
 .rw [h1];exact .inr ⟨_,_,rfl,h2⟩
theorem Halts.bnd {s:Sem α} {f:α→Sem α'} (h:Tame P s) (hf:∀ a,Halts P (f a)):Halts P (s >>= f):=fun w=>by
 rw [Sem.run_bind];rcases h w with ⟨a,w',h1⟩ | ⟨e,w',h1,h2⟩
 .rw [h1];exact hf a w'
 .rw [h1];exact ⟨_,_,rfl,h2⟩
theorem Tame.program:Tame P program:=fun w=>.inl ⟨_,_,rfl⟩
theorem Tame.sys (c:Sys):Tame P (Go.sys c):=fun w=>.inl ⟨_,_,rfl⟩
theorem Tame.under (t:TypeId):Tame P (underlying t):=by
 unfold underlying;refine Tame.bnd Tame.program fun p=>?_;cases p.underlying t with
 | none=>exact Tame.stuck _
 | some i=>exact Tame.ret i
theorem Tame.newVar (t:TypeId) (v:Value):Tame P (newVar t v):=fun w=>.inl ⟨_,_,rfl⟩
theorem Halts.goPanic (x:Value):Halts P (Go.goPanic x:Sem α):=fun w=>⟨.panic x,_,rfl,rfl⟩
theorem Tame.elem (t:TypeId):Tame P (elemOf t):=by
 unfold elemOf;refine Tame.bnd (Tame.under t) fun d=>?_;cases d<;>first | exact Tame.ret _ | exact Tame.stuck _
theorem Halts.panicNil:Halts P (runtimePanic .panicNil:Sem α):=by
 unfold runtimePanic;refine Halts.bnd Tame.program fun p=>?_;exact Halts.bnd (Tame.elem _) fun e=>Halts.bnd (Tame.newVar _ _) fun r=>Halts.goPanic _
theorem halts_panic (x:Value):Halts P (Instr.panic x):=by
 unfold Instr.panic;cases x with
 | iface t v=>exact Halts.goPanic _
 | nilIface=>
  refine Halts.bnd (s:=Instr.panicnil) ?_ fun n=>?_
  .unfold Instr.panicnil;refine Tame.bnd (Tame.sys _) fun r=>?_;cases r<;>first | exact Tame.stuck _ | exact Tame.bnd Tame.program fun p=>Tame.ret _
  .split
   .exact Halts.goPanic _
   .exact Halts.panicNil
 | _=>exact fun w=>⟨.stuck _,_,rfl,rfl⟩
theorem rel_panicOp {x y:Value}:SRel P L (RV L) β (Instr.panic x) (Instr.panic y):=.dead fun w=>halts_panic x w
theorem rel_clear (hP:PL P L) {as1 bs:Array Value} (ts:Array TypeId) (t:TypeId) (h:VsRel L β as1 bs) (h0:∀ u,ts[0]?=some u→∃ e,P.underlying u=some (.slice e)∧e < P.types.size):SRel P L (RV L) β (Builtin.clear_ ts t as1) (Builtin.clear_ ts t bs):=by
 unfold Builtin.clear_;cases hu:ts[0]? with
 | none=>exact .stuck
 | some u=>
 cases hv:as1[0]? with
 | none=>exact .stuck
 | some x=>
 obtain ⟨y,hy,hxy⟩:=h.get hv;rw [hy];obtain ⟨e,he,hez⟩:=h0 u hu;refine SRel.bnd (same_underP u) fun γ hl a b e1=>?_;obtain ⟨rfl,e1⟩:=e1;rw [he] at e1;cases e1;have fin:∀ γ,SRel P L (RV L) γ (Pure.pure (.tuple #[])) (Pure.pure (.tuple #[])):=fun γ=>.pure (.tuple rfl fun i v w h=>by simp at h);cases hxy.mono hl with
 | @slice p q n c h5=>
  cases p with
  | none=>cases q with
   | none=>cases n<;>exact fin _
   | some _=>exact h5.elim
  | some a=>cases q with
   | none=>exact h5.elim
   | some b=>
    cases n with
    | zero=>exact fin _
    | succ n=>
     exact SRel.bnd (rel_zero hP e hez) fun δ hl2 z z' hz=>SRel.bnd (R:=RU) (rel_storeCells 0 (ARel.mono hl2 h5) (zeroCells_rel (VsRel.cells hz) (n+1)).toL) fun δ hl2 _ _ _=>fin _
 | sliceZ a h=>exact fin _
 | map=>exact fin _
 | _=>exact .stuckB
theorem rel_addrMod (k:IntKind) (n:Int) {a b:Addr} (h:ARel L β a b):SRel P L (RV L) β (Op.addrMod k a n) (Op.addrMod k b n):=by
 unfold Op.addrMod;refine SRel.bnd (rel_shape h.1) fun γ hl x y e=>?_;subst e;cases x with
 | none=>exact .unsup
 | some x=>
  refine SameC.b (same_info _) fun δ hl2 i=>?_;dsimp only;split
  .exact .unsupB
  .exact SRel.bnd (rel_byteOf ((h.mono hl).mono hl2)) fun ε hl3 a b e=>by subst e;exact .pure (.int _ _)
def BOK2 (op:BinOp):Prop:=op=.shl∨op=.shr∨op=.quo∨op=.rem∨op=.and∨op=.or∨op=.xor∨op=.andNot
theorem rel_binMore {op:BinOp} (ho:BOK2 op) {t:TypeId} {x y u v:Value} (h:VRel L β x y) (k:VRel L β u v):SRel P L (RV L) β (binOp op t x u) (binOp op t y v):=by
 have hmod:∀ (kk:IntKind) (n:Int) (a b:Addr),ARel L β a b→SRel P L (RV L) β (behindNumber a >>= fun r=>Op.addrMod kk r.1 n) (behindNumber b >>= fun r=>Op.addrMod kk r.1 n):=fun kk n a b hab=>
  SRel.bnd (rel_behind hab) fun γ hl r s hrs=>rel_addrMod kk n hrs.1
 cases h with
 | int k1 n1=>
  cases k with
  | int k2 n2=>
   rcases ho with rfl | rfl | rfl | rfl | rfl | rfl | rfl | rfl
   .show SRel P L _ β (Op.shift .shl k1 n1 k2 n2) (Op.shift .shl k1 n1 k2 n2);unfold Op.shift;split
    .exact rel_error
    .exact .pure (.int _ _)
   .show SRel P L _ β (Op.shift .shr k1 n1 k2 n2) (Op.shift .shr k1 n1 k2 n2);unfold Op.shift;split
    .exact rel_error
    .exact .pure (.int _ _)
   all_goals
    unfold binOp;dsimp only;split
    .exact .stuck
    .first
      | exact SRel.pure (R:=RV L) (VRel.int _ _)
      | (unfold Op.intDiv;split
         .exact rel_error
         .exact .pure (.int _ _))
  | @pointer p q h=>
   cases p with
   | none=>cases q with
    | none=>rcases ho with rfl | rfl | rfl | rfl | rfl | rfl | rfl | rfl<;>exact .unsup
    | some _=>exact h.elim
   | some a=>cases q with
    | none=>exact h.elim
    | some b=>rcases ho with rfl | rfl | rfl | rfl | rfl | rfl | rfl | rfl<;>first | exact .unsup | exact hmod k1 (n1+1) a b h
  | _=>rcases ho with rfl | rfl | rfl | rfl | rfl | rfl | rfl | rfl<;>exact .stuck
 | @pointer p q h=>
  cases p with
  | none=>cases q with
   | none=>cases k<;>rcases ho with rfl | rfl | rfl | rfl | rfl | rfl | rfl | rfl<;>exact .unsup
   | some _=>exact h.elim
  | some a=>cases q with
   | none=>exact h.elim
   | some b=>
    cases k with
    | int k2 n2=>rcases ho with rfl | rfl | rfl | rfl | rfl | rfl | rfl | rfl<;>first | exact .unsup | exact hmod k2 n2 a b h | exact hmod k2 (n2+1) a b h
    | _=>rcases ho with rfl | rfl | rfl | rfl | rfl | rfl | rfl | rfl<;>exact .unsup
 | string s=>
  cases k with
  | string s2=>rcases ho with rfl | rfl | rfl | rfl | rfl | rfl | rfl | rfl<;>first | exact rel_string .shl s s2 | exact rel_string .shr s s2 | exact rel_string .quo s s2 | exact rel_string .rem s s2 | exact rel_string .and s s2 | exact rel_string .or s s2 | exact rel_string .xor s s2 | exact rel_string .andNot s s2
  | pointer h=>rcases ho with rfl | rfl | rfl | rfl | rfl | rfl | rfl | rfl<;>exact .unsup
  | _=>rcases ho with rfl | rfl | rfl | rfl | rfl | rfl | rfl | rfl<;>exact .stuck
 | _=>
  cases k with
  | pointer h=>rcases ho with rfl | rfl | rfl | rfl | rfl | rfl | rfl | rfl<;>exact .unsup
  | _=>rcases ho with rfl | rfl | rfl | rfl | rfl | rfl | rfl | rfl<;>exact .stuck
theorem rel_index {t:TypeId} (ht:P.underlying t=some .string) {x y i j:Value} (hx:VRel L β x y) (hi:VRel L β i j):SRel P L (RV L) β (Instr.index t x i) (Instr.index t y j):=by
 unfold Instr.index;refine SRel.bnd (rel_asInt hi) fun γ hl p q e=>?_;subst e;obtain ⟨k,n⟩:=p;dsimp only;refine SRel.bnd (same_underP t) fun δ hl2 u u' e=>?_;obtain ⟨rfl,hu⟩:=e;rw [ht] at hu;cases hu;have hx':=(hx.mono hl).mono hl2;cases hx' with
 | string s=>
  dsimp only;split
  .exact .pure (.int _ _)
  .exact rel_boundsPanic _ _ _ _
 | _=>exact .stuck
end
section
variable {P:Program} {L:Lim} {α α':Type} {R:Bl→α→α→Prop} {R':Bl→α'→α'→Prop} {β γ:Bl}
theorem rel_max2 {x y u v:Value} (h:VRel L β x y) (k:VRel L β u v):SRel P L (RV L) β (Builtin.max2 x u) (Builtin.max2 y v):=by
 cases h with
 | int k1 n1=>
  cases k with
  | int k2 n2=>exact .pure (.int _ _)
  | @pointer p q h=>cases p<;>cases q<;>first | exact .unsup | exact .stuck | exact absurd h (by simp [OARel])
  | _=>exact .stuck
 | @pointer p q h=>
  cases p<;>cases q<;>first
   | exact .unsup
   | (cases k with
    | @pointer p q h=>cases p<;>cases q<;>first | exact .unsup | exact .stuck | exact absurd h (by simp [OARel])
    | _=>exact .stuck)
   | exact absurd h (by simp [OARel])
 | string s=>
  cases k with
  | string t=>
   unfold Builtin.max2;dsimp only;refine SRel.bnd (R:=RV L) (.pure (.bool _)) fun γ hl a b hab=>SRel.bnd (rel_asBool hab) fun δ hl2 c d e=>?_;subst e;exact .pure (.string _)
  | @pointer p q h=>cases p<;>cases q<;>first | exact .unsup | exact .stuck | exact absurd h (by simp [OARel])
  | _=>exact .stuck
 | _=>
  cases k with
  | @pointer p q h=>cases p<;>cases q<;>first | exact .unsup | exact .stuck | exact absurd h (by simp [OARel])
  | _=>exact .stuck
theorem rel_maxFold:∀ {xs ys:List Value} {β:Bl} {x y:Value},LRel L β xs ys→VRel L β x y→SRel P L (RV L) β (xs.foldlM Builtin.max2 x) (ys.foldlM Builtin.max2 y)
 | _,_,β,x,y,.nil,h=>.pure h
 | _,_,β,x,y,.cons hx hs,h=>SRel.bnd (rel_max2 h hx) fun γ hl a b hab=>rel_maxFold (hs.mono hl) hab
theorem rel_max {as1 bs:Array Value} (ts:Array TypeId) (t:TypeId) (h:VsRel L β as1 bs):SRel P L (RV L) β (Builtin.max_ ts t as1) (Builtin.max_ ts t bs):=by
 unfold Builtin.max_;have h2:=h.toL
 revert h2
 generalize as1.toList=l
 generalize bs.toList=m
 intro h2;cases h2 with
 | nil=>exact .stuck
 | cons hx hs=>exact rel_maxFold hs hx
theorem rel_firstCellsLe {x y:Value} (size n:Nat) (h:VRel L β x y) (hn:∀ p m c,x=.slice p m c→n≤m):SRel P L (fun γ a b=>VsRel L γ a b) β (Builtin.firstCells size n x) (Builtin.firstCells size n y):=by
 cases h with
 | @slice p q m c h=>cases p<;>cases q<;>first | exact .pure VsRel.nil | exact rel_cells _ h | exact absurd h (by simp [OARel])
 | sliceZ a h=>
  have:=hn _ _ _ rfl;obtain rfl:n=0:=by omega
  show SRel P L _ β (loadCells a (0 * size)) (loadCells a (0 * size));rw [Nat.zero_mul];exact .pure VsRel.nil
 | string s=>
  refine .pure ⟨rfl,fun i v w h1 h2=>?_⟩;rw [h1] at h2;cases h2;simp only [Array.getElem?_map,Option.map_eq_some_iff] at h1;obtain ⟨b,_,rfl⟩:=h1;exact .int _ _
 | _=>exact .stuck
theorem rel_firstCellsN {x y:Value} (size:Nat) (h:VRel L β x y):SRel P L (fun γ a b=>a=#[]∧b=#[]) β (Builtin.firstCells size 0 x) (Builtin.firstCells size 0 y):=by
 have z:∀ a:Addr,loadCells a (0 * size)=(Pure.pure #[]:Sem (Array Value)):=fun a=>by rw [Nat.zero_mul];rfl
 cases h with
 | @slice p q m c h=>cases p<;>cases q<;>first | exact .pure ⟨rfl,rfl⟩ | (unfold Builtin.firstCells;dsimp only;rw [z,z];exact .pure ⟨rfl,rfl⟩) | exact absurd h (by simp [OARel])
 | sliceZ a h=>unfold Builtin.firstCells;dsimp only;rw [z];exact .pure ⟨rfl,rfl⟩
 | string s=>exact .pure ⟨by simp,by simp⟩
 | _=>exact .stuck
theorem rel_copy {as1 bs:Array Value} (ts:Array TypeId) (t:TypeId) (h:VsRel L β as1 bs):SRel P L (RV L) β (Builtin.copy_ ts t as1) (Builtin.copy_ ts t bs):=by
 unfold Builtin.copy_;cases hu:ts[0]? with
 | none=>exact .stuck
 | some u=>
 cases hv:as1[0]? with
 | none=>exact .stuck
 | some x=>
 cases hv1:as1[1]? with
 | none=>exact .stuck
 | some x1=>
 obtain ⟨y,hy,hxy⟩:=h.get hv;obtain ⟨y1,hy1,hxy1⟩:=h.get hv1;rw [hy,hy1];refine SRel.bnd (same_underP u) fun γ hl a b e1=>?_;obtain ⟨rfl,e1⟩:=e1;cases a with
 | slice elem=>
  dsimp only;have h2:=hxy.mono hl;have h3:=hxy1.mono hl;cases h2 with
  | @slice p q m c ho=>
   dsimp only;refine SRel.bnd (rel_lenOf h3) fun δ hl2 k k' e=>?_;obtain ⟨rfl,hm⟩:=e;refine SameC.b (same_size _) fun ε hl3 sz=>?_;refine SRel.bnd (rel_firstCellsLe sz _ ((h3.mono hl2).mono hl3) fun p m c e=>?_) fun ζ hl4 cs ds hcd=>?_
   .rw [← hm p m c e];exact Nat.min_le_left _ _
   .have ho':=((ho.mono hl2).mono hl3).mono hl4;cases p with
    | none=>cases q with
     | none=>exact SRel.pureB (.pure (.int _ _))
     | some _=>exact ho.elim
    | some a=>cases q with
     | none=>exact ho.elim
     | some b=>exact SRel.bnd (rel_storeCells 0 ho' hcd.toL) fun η hl5 _ _ _=>.pure (.int _ _)
  | sliceZ a ha=>
   dsimp only;refine SRel.bnd (rel_lenOf h3) fun δ hl2 k k' e=>?_;obtain ⟨rfl,hm⟩:=e;refine SameC.b (same_size _) fun ε hl3 sz=>?_;have e0:Nat.min k 0=0:=Nat.min_zero _;rw [e0];refine SRel.bnd (rel_firstCellsN sz ((h3.mono hl2).mono hl3)) fun ζ hl4 cs ds hcd=>?_;obtain ⟨rfl,rfl⟩:=hcd;exact .pure (.int _ _)
  | _=>exact .stuck
 | _=>exact .stuck
def TOS (P:Program) (t:TypeId):Prop:=∃ f:Field,P.underlying t=some (.struct #[f])∧∃ k,P.underlying f.type=some (.int k)
theorem rel_equalS (hg:P.globals.size≤L.g) {t:TypeId} (ht:TOS P t) {x y u v:Value} (h:VRel L β x y) (k:VRel L β u v):SRel P L RElt β (Op.equal t x u) (Op.equal t y v):=by
 unfold Op.equal;show SRel P L RElt β (Op.equalIn (9998+1+1) t x u) (Op.equalIn (9998+1+1) t y v);unfold Op.equalIn;refine SRel.bnd (same_underP t) fun γ hl a b e=>?_;obtain ⟨rfl,e1⟩:=e;obtain ⟨f,hf,hk⟩:=ht;rw [hf] at e1;cases e1;have hx:=h.mono hl;have hu:=k.mono hl;clear h k;cases hx with
 | @agg as1 bs h1 h2=>
  cases hu with
  | @agg cs ds h3 h4=>
   dsimp only;refine SRel.bnd same_programP fun δ hl2 p q e=>?_;obtain ⟨e1,e2⟩:=e;rw [e1,e2];split
   .exact .unsup
   .have hfor:∀ g:Field→Option Bool×Unit→Sem (ForInStep (Option Bool×Unit)),forIn #[f] (none,()) g=(g f (none,()) >>= fun r=>match r with | .done b=>Pure.pure b | .yield b=>Pure.pure b):=fun g=>by
     rw [← Array.forIn_toList];show forIn [f] (none,()) g=_;rw [List.forIn_cons]
     congr 1
     funext r
     cases r
     .rfl
     .exact List.forIn_nil
    rw [hfor,hfor];have ha:VsRel L δ as1 bs:=VsRel.mono hl2 ⟨h1,h2⟩;have hc:VsRel L δ cs ds:=VsRel.mono hl2 ⟨h3,h4⟩;refine SRel.bnd (R:=fun _ a b=>a=b) (SRel.bnd (R:=fun _ a b=>a=b) ?_ fun ε hl3 r s e=>?_) fun ε hl3 r s e=>?_
    .by_cases hn : f.name ≠ "_"
     .rw [if_pos hn,if_pos hn];refine SRel.bnd (rel_part _ ha _) fun ε hl3 a b hab=>SRel.bnd (rel_part _ (hc.mono hl3) _) fun ζ hl4 c d hcd=>SRel.bnd (rel_equalIn 9998 hg (.inl hk) (hab.mono hl4) hcd) fun η hl5 r s e=>?_;subst e;cases r<;>exact .pure rfl
     .rw [if_neg hn,if_neg hn];exact .pure rfl
    .subst e;cases r<;>exact .pure rfl
    .subst e;obtain ⟨o,_⟩:=r;cases o<;>exact .pure rfl
  | _=>exact .stuck
 | _=>cases hu<;>exact .stuck
theorem dead_equalS {t:TypeId} (ht:TOS P t) {x u:Value} (h:IsPz L.bad x∨IsPz L.bad u) (w:World):∃ e w',(Op.equal t x u).run P w=.halt e w'∧qh e=true:=by
 have hu:∀ d,P.underlying t=some d→(underlying t).run P w=.ok d w:=fun d hd=>by
  unfold underlying;rw [Sem.run_bind]
  show ((match P.underlying t with | some d => Pure.pure d | none => Go.stuck "no such type" : Sem TypeDesc).run P w) = _;rw [hd];rfl
 unfold Op.equal;show ∃ e w',(Op.equalIn (9999+1) t x u).run P w=.halt e w'∧_;unfold Op.equalIn;rw [Sem.run_bind];obtain ⟨f,hf,_⟩:=ht;rw [hu _ hf];rcases h with ⟨z,rfl⟩ | ⟨z,rfl⟩
 .cases u<;>exact ⟨_,_,rfl,rfl⟩
 .cases x<;>exact ⟨_,_,rfl,rfl⟩
theorem dead_binS {op:BinOp} (ho:op=.eql∨op=.neq) {t:TypeId} (ht:TOS P t) {x u:Value} (hp:IsPz L.bad x∨IsPz L.bad u) (y:Sem Value):SRel P L (RV L) β (binOp op t x u) y:=by
 rcases ho with rfl | rfl
 .have:=SRel.deadB (P:=P) (L:=L) (R':=RV L) (β:=β) (f:=fun b=>Pure.pure (Value.bool b)) (u:=y) (dead_equalS ht hp);rcases hp with ⟨z,rfl⟩ | ⟨z,rfl⟩
  .cases u<;>exact this
  .cases x<;>exact this
 .have:=SRel.deadB (P:=P) (L:=L) (R':=RV L) (β:=β) (f:=fun b=>Pure.pure (Value.bool (!b))) (u:=y) (dead_equalS ht hp);rcases hp with ⟨z,rfl⟩ | ⟨z,rfl⟩
  .cases u<;>exact this
  .cases x<;>exact this
theorem rel_binEqS (hg:P.globals.size≤L.g) {t:TypeId} (ht:TOS P t) {x y u v:Value} (h:VRel L β x y) (k:VRel L β u v):SRel P L (RV L) β (binOp .eql t x u) (binOp .eql t y v)∧SRel P L (RV L) β (binOp .neq t x u) (binOp .neq t y v):=by
 have e1:SRel P L (RV L) β (Op.equal t x u >>= fun b=>Pure.pure (.bool b)) (Op.equal t y v >>= fun b=>Pure.pure (.bool b)):=SRel.bnd (rel_equalS hg ht h k) fun _ _ a b e=>by subst e;exact .pure (.bool _)
 have e2:SRel P L (RV L) β (Op.equal t x u >>= fun b=>Pure.pure (.bool (!b))) (Op.equal t y v >>= fun b=>Pure.pure (.bool (!b))):=SRel.bnd (rel_equalS hg ht h k) fun _ _ a b e=>by subst e;exact .pure (.bool _)
 by_cases hp:IsPz L.bad x∨IsPz L.bad u
 .exact ⟨dead_binS (.inl rfl) ht hp _,dead_binS (.inr rfl) ht hp _⟩
 .have ha:¬ IsPz L.bad x:=fun e=>hp (.inl e);have hc:¬ IsPz L.bad u:=fun e=>hp (.inr e);cases h with
  | poison=>exact absurd ⟨_,rfl⟩ ha
  | int k1 n1=>
   cases k with
   | poison=>exact absurd ⟨_,rfl⟩ hc
   | int k2 n2=>constructor<;>(unfold binOp;dsimp only;split<;>first | exact .stuck | exact SRel.pure (R:=RV L) (VRel.bool _))
   | _=>exact ⟨e1,e2⟩
  | string s=>
   cases k with
   | poison=>exact absurd ⟨_,rfl⟩ hc
   | string s2=>exact ⟨rel_string .eql s s2,rel_string .neq s s2⟩
   | _=>exact ⟨e1,e2⟩
  | _=>
   cases k with
   | poison=>exact absurd ⟨_,rfl⟩ hc
   | _=>exact ⟨e1,e2⟩
end

