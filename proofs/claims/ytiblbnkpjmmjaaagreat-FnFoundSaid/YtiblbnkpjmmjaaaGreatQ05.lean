/- -/
import Derived.Test.YtiblbnkpjmmjaaaGreatQ04
import Derived.Conc.Fork
set_option maxRecDepth 100000
set_option maxHeartbeats 16000000
set_option linter.all false
namespace Go.Proofs.YtiblbnkpjmmjaaaGreat
open Go.Conc
section
variable {P:Program} {L:Lim} {K:List Item} {β γ:Bl} {a b:Frame} {rc:List Frame} {v w:World}
theorem apply_out (hF:FnsOK P L) {s t:Sem Next} (hs:SRel P L (RN L) β s t) (h:FRel P L K β a b) {as1 bs:List Frame} (hc:CsRel P L K rc β as1 bs) (hw:WRel L β v w) (ha:Agree v w) {ops:Array Oper} {i:Nat} {rest:List Nat} {k:List Item}
 (e:a.todo=.inRegion ops (i :: rest) :: k):SOut P L K rc β v w (stepG.apply P true a as1 none s v) (stepG.apply P true b bs none t w):=by
 have main:=apply_rel hF hs h hc hw ha e;have hr:=hs.run hw ha;cases hst:stepG.apply P true a as1 none s v with
 | go g' v' es=>
  exact .inr ⟨g',v',es,rfl,main g' v' es hst⟩
 | ended o v' es=>exact .inl ⟨o,v',es,rfl⟩
 | _=>
  exfalso
  unfold stepG.apply at hst;simp only [Sem.runT_eq,if_true,e,h.ka] at hst;cases hrun:s.run P v with
  | ok x v1=>
   rw [hrun] at hr hst;obtain ⟨γ,y,w1,k1,F,hn,hev⟩:=hr;cases hn<;>cases hst
  | halt x v1=>
   rw [hrun] at hr hst;cases x with
   | panic x=>cases hst
   | unsupported u=>cases u<;>first | (cases hst;done) | (cases hr;done)
   | stuck s=>cases hst
   | _=>cases hr
theorem step_rel (hP:PL P L) (hg:P.globals.size≤L.g) (hF:FnsOK P L) {g h:Goroutine} (hG:GRel P L K rc β g h) (hw:WRel L β v w) (ha:Agree v w) (main main':Bool) :
 SOut P L K rc β v w (stepG P main g v) (stepG P main' h w):=by
 obtain ⟨fr,cs,st,dy,ofs⟩:=g;obtain ⟨fr',cs',st',dy',ofs'⟩:=h;obtain ⟨hfr,hcs,rfl,rfl,rfl,rfl⟩:=hG;simp only at hfr hcs
 have G2:∀ {k l:List Item},TRel P L K k l→GRel P L K rc β { frame:={ fr with todo:=k },callers:=cs,status:=.running,dying:=none } { frame:={ fr' with todo:=l },callers:=cs',status:=.running,dying:=none }:=
  fun hk=>⟨hfr.to hk,hcs,rfl,rfl,rfl,rfl⟩
 have hmode:=hfr.mode;obtain ⟨fn,tm,td,df,md,kd,ro⟩:=fr;obtain ⟨fn',tm',td',df',md',kd',ro'⟩:=fr';obtain rfl:fn=fn':=hfr.fn;have htd:TRel P L K td td':=hfr.todo;obtain rfl:df=[]:=hfr.da;obtain rfl:df'=[]:=hfr.db;obtain rfl:kd=.normal:=hfr.ka;obtain rfl:kd'=.normal:=hfr.kb;obtain rfl:ro=none:=hfr.ra;obtain rfl:ro'=none:=hfr.rb;simp only at hmode;obtain ⟨fnc,hfn⟩:=hfr.isF;simp only at hfn;cases md with
 | returning=>
  cases md' with
  | returning=>
   have key:SOut P L K rc β v w (unwind P main { fn:=fn,tmps:=tm,todo:=td,defers:=[],mode:=.returning,kind:=.normal,roundOf:=none } cs none v)
    (unwind P main' { fn:=fn,tmps:=tm',todo:=td',defers:=[],mode:=.returning,kind:=.normal,roundOf:=none } cs' none w):=by
    unfold unwind;simp only [hfn,Sem.runT_eq];have hr:=(rel_results (P:=P) (L:=L) fnc hfr.tmps).run hw ha;simp only at hr;cases hrun:(results fnc tm).run P v with
    | ok x v1=>
     rw [hrun] at hr;obtain ⟨γ,y,w1,k1,F,hv,hev⟩:=hr;rw [k1];have hE:∀ x∈seen P fn ((results fnc tm').events P w #[]),EvOk γ x:=fun x hx=>(hev #[] x (seen_sub _ _ x hx)).resolve_left (by simp);cases hcs with
     | base=>exact .inr ⟨_,_,_,rfl,.inl ⟨rfl,rfl,.inl ⟨rfl,rfl,.inl ⟨rfl,rfl⟩⟩⟩⟩
     | cons hc1 he1 hc2=>
      exact .inr ⟨_,_,_,rfl,.inr ⟨γ,_,_,_,rfl,F,⟨(hc1.mono F.le).finish he1 hv,hc2.mono F.le,rfl,rfl,rfl,rfl⟩,fun x hx=>hE x (by simpa using hx)⟩⟩
    | halt x v1=>
     cases x<;>exact .inl ⟨_,_,_,rfl⟩
   exact key
  | run=>exact (hmode:False).elim
  | panicking _=>exact (hmode:False).elim
 | panicking c=>cases md'<;>exact (hmode:False).elim
 | run=>
  cases md' with
  | panicking _=>exact (hmode:False).elim
  | returning=>exact (hmode:False).elim
  | run=>
   have ret:GRel P L K rc β { frame:={ fn:=fn,tmps:=tm,todo:=td,defers:=[],mode:=.returning,kind:=.normal,roundOf:=none },callers:=cs,status:=.running,dying:=none }
    { frame:={ fn:=fn,tmps:=tm',todo:=td',defers:=[],mode:=.returning,kind:=.normal,roundOf:=none },callers:=cs',status:=.running,dying:=none }:=
    ⟨⟨rfl,htd,hfr.tmps,rfl,rfl,trivial,rfl,rfl,rfl,rfl,⟨fnc,hfn⟩⟩,hcs,rfl,rfl,rfl,rfl⟩
   rcases htd.inv with ⟨rfl,rfl⟩ | ⟨rfl,rfl⟩ | ⟨i,k,l,rfl,rfl,hi,hk⟩ | ⟨c,cs,tail,K0,rfl,rfl,hi,hk⟩
   case inr.inr.inr=>exact SOut.same hw ha (G2 (TRel.cons (i:=.code c) hi hk))
   .exact SOut.same hw ha ret
   .exact .inl ⟨_,_,_,rfl⟩
   .skip
    cases i with
    | inBlock id=>exact SOut.same hw ha (G2 hk)
    | inScope c=>exact (hi:False).elim
    | inRangeFunc l=>exact (hi:False).elim
    | endRangeFunc l=>exact (hi:False).elim
    | beginRound=>exact (hi:False).elim
    | call d wr r s=>exact (hi:False).elim
    | extern r xs=>exact (hi:False).elim
    | inLoop c=>
     exact SOut.same hw ha (G2 (TRel.cons (i:=.code c) hi (TRel.cons (i:=.inLoop c) hi hk)))
    | inRegion ops todo=>
     cases todo with
     | nil=>exact SOut.same hw ha (G2 hk)
     | cons i rest=>
      have hy:yielded ops tm'=yielded ops tm:=funext fun j=>yielded_rel ops hfr.tmps j
      have e0:∀ (k:List Item) (x:Array Value) (m:Bool) (cs:List Frame) (u:World),stepG P m { frame:={ fn:=fn,tmps:=x,todo:=.inRegion ops (i :: rest) :: k,defers:=[],mode:=.run,kind:=.normal,roundOf:=none },callers:=cs,status:=.running,dying:=none,offers:=none } u =
       if ((ops[i]?).map (Region.wanted · (yielded ops x))).getD false then stepG.oper P true { fn:=fn,tmps:=x,todo:=.inRegion ops (i :: rest) :: k,defers:=[],mode:=.run,kind:=.normal,roundOf:=none } cs none u
       else .go { frame:=Frame.finish { fn:=fn,tmps:=x,todo:=.inRegion ops (i :: rest) :: k,defers:=[],mode:=.run,kind:=.normal,roundOf:=none } undef,callers:=cs,status:=.running,dying:=none } u:=fun k x m cs u=>rfl
      show SOut P L K rc β v w (stepG P main { frame:={ fn:=fn,tmps:=tm,todo:=.inRegion ops (i :: rest) :: k,defers:=[],mode:=.run,kind:=.normal,roundOf:=none },callers:=cs,status:=.running,dying:=none,offers:=none } v) (stepG P main' { frame:={ fn:=fn,tmps:=tm',todo:=.inRegion ops (i :: rest) :: l,defers:=[],mode:=.run,kind:=.normal,roundOf:=none },callers:=cs',status:=.running,dying:=none,offers:=none } w);rw [e0,e0,hy];split
      .rename_i hwant
       cases ho:ops[i]? with
       | none=>rw [ho] at hwant;cases hwant
       | some o=>
        have hop:OpOK P L o.op:=hi o (by rw [Array.mem_toList_iff];exact Array.mem_of_getElem? ho);have hs:=rel_op (P:=P) (L:=L) (β:=β) hP hg hop (ρ:=Frame.eval { fn:=fn,tmps:=tm,todo:=.inRegion ops (i :: rest) :: k,defers:=[],mode:=.run,kind:=.normal,roundOf:=none }) (σ:=Frame.eval { fn:=fn,tmps:=tm',todo:=.inRegion ops (i :: rest) :: l,defers:=[],mode:=.run,kind:=.normal,roundOf:=none }) fun x hx=>hfr.eval hx;have:=apply_out hF hs hfr hcs hw ha (ops:=ops) (i:=i) (rest:=rest) (k:=k) rfl;unfold stepG.oper Frame.oper?;simp only [ho];exact this
      .exact SOut.same hw ha ⟨hfr.finish ⟨_,_,_,_,rfl⟩ undef_rel,hcs,rfl,rfl,rfl,rfl⟩
    | code c=>
     cases c with
     | skip=>exact SOut.same hw ha (G2 hk)
     | label l=>exact SOut.same hw ha (G2 hk)
     | ret=>exact SOut.same hw ha ret
     | seq x y=>
      exact SOut.same hw ha (G2 (TRel.cons (i:=.code x) hi.1 (TRel.cons (i:=.code y) hi.2 hk)))
     | cond c x y=>
      have hc:=hfr.eval hi.1
      have e0:∀ (k:List Item) (x':Array Value) (m:Bool) (cs:List Frame) (u:World),stepG P m { frame:={ fn:=fn,tmps:=x',todo:=.code (.cond c x y) :: k,defers:=[],mode:=.run,kind:=.normal,roundOf:=none },callers:=cs,status:=.running,dying:=none,offers:=none } u =
       match Frame.eval { fn:=fn,tmps:=x',todo:=.code (.cond c x y) :: k,defers:=[],mode:=.run,kind:=.normal,roundOf:=none } c with
       | .bool b=>.go { frame:={ fn:=fn,tmps:=x',todo:=.code (if b then x else y) :: k,defers:=[],mode:=.run,kind:=.normal,roundOf:=none },callers:=cs,status:=.running,dying:=none } u
       | _ => .ended (.stuck "cond: bool expected" (Frame.pos P { fn := fn, tmps := x', todo := .code (.cond c x y) :: k, defers := [], mode := .run, kind := .normal, roundOf := none })) u := fun k x' m cs u => rfl
      show SOut P L K rc β v w (stepG P main { frame:={ fn:=fn,tmps:=tm,todo:=.code (.cond c x y) :: k,defers:=[],mode:=.run,kind:=.normal,roundOf:=none },callers:=cs,status:=.running,dying:=none,offers:=none } v) (stepG P main' { frame:={ fn:=fn,tmps:=tm',todo:=.code (.cond c x y) :: l,defers:=[],mode:=.run,kind:=.normal,roundOf:=none },callers:=cs',status:=.running,dying:=none,offers:=none } w);rw [e0,e0];cases hev:Frame.eval { fn:=fn,tmps:=tm,todo:=.code (.cond c x y) :: k,defers:=[],mode:=.run,kind:=.normal,roundOf:=none } c with
      | bool t=>
       rw [hev] at hc;cases hc':Frame.eval { fn:=fn,tmps:=tm',todo:=.code (.cond c x y) :: l,defers:=[],mode:=.run,kind:=.normal,roundOf:=none } c with
       | bool t'=>
        rw [hc'] at hc;cases hc;exact SOut.same hw ha (G2 (TRel.cons (i:=.code (if t then x else y)) (by cases t;exact hi.2.2;exact hi.2.1) hk))
       | _=>rw [hc'] at hc;cases hc
      | _=>exact .inl ⟨_,_,_,rfl⟩
     | block id c=>
      exact SOut.same hw ha (G2 (TRel.cons (i:=.code c) hi (TRel.cons (i:=.inBlock id) trivial hk)))
     | loop c=>
      exact SOut.same hw ha (G2 (TRel.cons (i:=.code c) hi (TRel.cons (i:=.inLoop c) hi hk)))
     | exit id=>
      cases hx:exitTo id k with
      | some k'=>
       obtain ⟨l',hx',hk'⟩:=hk.exit hx
       have e0:∀ (k k':List Item) (x':Array Value) (m:Bool) (cs:List Frame) (u:World),exitTo id k=some k'→stepG P m { frame:={ fn:=fn,tmps:=x',todo:=.code (.exit id) :: k,defers:=[],mode:=.run,kind:=.normal,roundOf:=none },callers:=cs,status:=.running,dying:=none,offers:=none } u =
        .go { frame:={ fn:=fn,tmps:=x',todo:=k',defers:=[],mode:=.run,kind:=.normal,roundOf:=none },callers:=cs,status:=.running,dying:=none } u:=fun k k' x' m cs u hx=>by
        simp [stepG,stepG.exec,hx]
       show SOut P L K rc β v w (stepG P main { frame:={ fn:=fn,tmps:=tm,todo:=.code (.exit id) :: k,defers:=[],mode:=.run,kind:=.normal,roundOf:=none },callers:=cs,status:=.running,dying:=none,offers:=none } v) (stepG P main' { frame:={ fn:=fn,tmps:=tm',todo:=.code (.exit id) :: l,defers:=[],mode:=.run,kind:=.normal,roundOf:=none },callers:=cs',status:=.running,dying:=none,offers:=none } w);rw [e0 _ _ _ _ _ _ hx,e0 _ _ _ _ _ _ hx'];exact SOut.same hw ha (G2 hk')
      | none=>
       refine .inl ⟨.stuck "exit, goto: no such block or label" (Frame.pos P { fn := fn, tmps := tm, todo := .code (.exit id) :: k, defers := [], mode := .run, kind := .normal, roundOf := none }), v, #[], ?_⟩;simp [stepG,stepG.exec,hx]
     | region id ops draw=>
      have hreg:∀ (r:List Nat),TRel P L K (Item.inRegion ops r :: k) (Item.inRegion ops r :: l):=fun r=>TRel.cons (i:=.inRegion ops r) hi hk;cases draw with
      | false=>exact SOut.same hw ha (G2 (hreg _))
      | true=>
       have e0:∀ (k:List Item) (x':Array Value) (m:Bool) (cs:List Frame) (u:World),stepG P m { frame:={ fn:=fn,tmps:=x',todo:=.code (.region id ops true) :: k,defers:=[],mode:=.run,kind:=.normal,roundOf:=none },callers:=cs,status:=.running,dying:=none,offers:=none } u =
        .go { frame:={ fn:=fn,tmps:=x',todo:=.inRegion ops (Region.schedule (P.follows .mixedOrders) ops (u.tape u.drawn (.order fn id))) :: k,defers:=[],mode:=.run,kind:=.normal,roundOf:=none },callers:=cs,status:=.running,dying:=none } { u with drawn:=u.drawn+1 }:=fun k x' m cs u=>by
        simp [stepG,stepG.exec,choose,Sem.run,Question.forced,Question.cut]
       show SOut P L K rc β v w (stepG P main { frame:={ fn:=fn,tmps:=tm,todo:=.code (.region id ops true) :: k,defers:=[],mode:=.run,kind:=.normal,roundOf:=none },callers:=cs,status:=.running,dying:=none,offers:=none } v) (stepG P main' { frame:={ fn:=fn,tmps:=tm',todo:=.code (.region id ops true) :: l,defers:=[],mode:=.run,kind:=.normal,roundOf:=none },callers:=cs',status:=.running,dying:=none,offers:=none } w);rw [e0,e0,show w.tape w.drawn (.order fn id)=v.tape v.drawn (.order fn id) from (ha 0 (.order fn id)).symm];exact .inr ⟨_,_,_,rfl,.inr ⟨β,_,_,_,rfl,Foot.draw hw ha,G2 (hreg _),by simp⟩⟩
     | scope c=>exact (hi:False).elim
     | goto l=>exact (hi:False).elim
     | rangeFunc f ps x y=>exact (hi:False).elim
     | refuse s=>exact (hi:False).elim
end
abbrev Tp:=Nat→Question→Nat
def reW (w:World) (τ:Tp) (d:Nat):World:={ w with tape:=τ,drawn:=d }
def reR {α:Type}:Result α→Tp→Nat→Result α
 | .ok a w,τ,d=>.ok a (reW w τ d)
 | .halt h w,τ,d=>.halt h (reW w τ d)
def LiveR {α:Type}:Result α→Prop
 | .ok _ _=>True
 | _=>False
def Pre (n:Nat) (v:World) (τ:Tp) (d:Nat):Prop:=∀ j,j < n→∀ q,τ (d+j) q=v.tape (v.drawn+j) q
theorem not_live {α:Type} {e:Halt} {w:World} (h:qh e=true):¬ LiveR (Result.halt (α:=α) e w):=fun hl=>hl
section
variable {P:Program} {L:Lim} {α:Type} {R:Bl→α→α→Prop} {β γ:Bl}
theorem SRel.shift {s t:Sem α} (h:SRel P L R β s t):∀ {v w:World},WRel L β v w→Agree v w→LiveR (s.run P v)→∃ n,∀ τ d,Pre n v τ d→s.run P (reW v τ d)=reR (s.run P v) τ (d+n):=by
 induction h with
 | pure h=>exact fun hw ha hl=>⟨0,fun τ d _=>rfl⟩
 | @load β m a b k l h hk ih=>
  intro v w hw ha hl;cases hc:v.cell? a with
  | none=>
   exfalso
   have hf:∃ e,v.farLoad P a (m == .atomic)=.error e∧qh e=true:=by
    obtain ⟨e, he, hx, hn⟩ := hw.noCell h "load: no such cell";unfold World.farLoad;split
    .rename_i h1;exact absurd h1 (hn _ _)
    .rw [he];exact ⟨_,rfl,hx⟩
   obtain ⟨e,he,hx⟩:=hf;unfold Sem.run at hl;simp only [hc,he] at hl;exact not_live hx hl
  | some x=>
   obtain ⟨y,hy,hv⟩:=hw.cell h hc;have e1:(Sem.load m a k).run P v=(k x).run P v:=by conv=>lhs;unfold Sem.run;simp only [hc]
   rw [e1] at hl ⊢;obtain ⟨n,hn⟩:=ih β (Bl.Le.refl _) x y hv hw ha hl;refine ⟨n,fun τ d hp=>?_⟩;rw [← hn τ d hp];have hc':(reW v τ d).cell? a=some x:=hc
   conv=>lhs;unfold Sem.run;simp only [hc']
 | @store β m a b x y k l h hv hk ih=>
  intro v w hw ha hl;have plain:(∀ cs,x≠.agg cs)→(∀ cs,x≠.tuple cs)→∃ n,∀ τ d,Pre n v τ d→(Sem.store m a x k).run P (reW v τ d)=reR ((Sem.store m a x k).run P v) τ (d+n):=fun n1 n2=>by
   have hrun:∀ (u:World),(Sem.store m a x k).run P u=match u.cell? a with
    | some _ => if u.frozen? a then .halt (.unsupported (.unsafePointer "a write to bytes that a string shares")) u else k.run P (u.setCell a x)
    | none=>match u.farStore P a x (m == .atomic) with
     | .ok (w,_)=>k.run P w
     | .error h=>.halt h u:=fun u=>by
    cases x<;>first | exact absurd rfl (n1 _) | exact absurd rfl (n2 _) | rfl
   rw [hrun v] at hl ⊢;cases hc:v.cell? a with
   | none=>
    exfalso
    have hf:∃ e,v.farStore P a x (m == .atomic)=.error e∧qh e=true:=by
     obtain ⟨e, he, hx, hn⟩ := hw.noCell h "store: no such cell";unfold World.farStore;split
     .rename_i h1;exact absurd h1 (hn _ _)
     .rw [he];exact ⟨_,rfl,hx⟩
    obtain ⟨e,he,hx⟩:=hf;simp only [hc,he] at hl;exact not_live hx hl
   | some z=>
    obtain ⟨z',hz,_⟩:=hw.cell h hc;simp only [hc] at hl ⊢;by_cases hf:v.frozen? a=true
    .rw [if_pos hf] at hl;exact absurd hl (not_live (α:=α) rfl)
    .rw [if_neg hf] at hl ⊢;have F:=hw.set ha h hc hv;obtain ⟨n,hn⟩:=ih β (Bl.Le.refl _) F.rel F.ag hl;refine ⟨n,fun τ d hp=>?_⟩;rw [← hn τ d hp,hrun];have hc':(reW v τ d).cell? a=some z:=hc;have hf':(reW v τ d).frozen? a=v.frozen? a:=rfl;simp only [hc',hf'];rw [if_neg hf];rfl
  cases x with
  | agg cs=>exact absurd hl (not_live (α:=α) rfl)
  | tuple cs=>exact absurd hl (not_live (α:=α) rfl)
  | _=>exact plain (fun cs h=>by cases h) (fun cs h=>by cases h)
 | @new β o p k l h hk ih=>
  intro v w hw ha hl;have F:=hw.new ha h;obtain ⟨n,hn⟩:=ih _ F.le v.heap.size w.heap.size (by unfold Bl.put;rw [if_pos rfl]) ⟨hw.sv,hw.sw⟩ F.rel F.ag hl;exact ⟨n,fun τ d hp=>hn τ d hp⟩
 | @getObj β r s k l h hk ih=>
  intro v w hw ha hl;obtain ⟨o,p,h1,h2,h3⟩:=hw.blk _ _ h;cases h3 with
  | cells T f h4=>
   exfalso
   unfold Sem.run at hl;rw [h1] at hl;exact not_live (α:=α) rfl hl
  | @number a b n h4=>
   have e1:(Sem.getObj r k).run P v=(k (.number a n)).run P v:=by conv=>lhs;unfold Sem.run;rw [h1]
   rw [e1] at hl ⊢;obtain ⟨m,hm⟩:=ih a b n h4 hw ha hl;refine ⟨m,fun τ d hp=>?_⟩;rw [← hm τ d hp];have h1':(reW v τ d).heap[r]?=some (.number a n):=h1
   conv=>lhs;unfold Sem.run;rw [h1']
 | @choose β q k l hk ih=>
  intro v w hw ha hl;by_cases hf:q.forced=true
  .have e1:∀ u,(Sem.choose q k).run P u=(k 0).run P u:=fun u=>by conv=>lhs;unfold Sem.run;rw [if_pos hf]
   rw [e1] at hl ⊢;obtain ⟨n,hn⟩:=ih 0 hw ha hl;exact ⟨n,fun τ d hp=>by rw [e1];exact hn τ d hp⟩
  .have e1:∀ u:World,(Sem.choose q k).run P u=(k (q.cut (u.tape u.drawn q))).run P { u with drawn:=u.drawn+1 }:=fun u=>by conv=>lhs;unfold Sem.run;rw [if_neg hf]
   rw [e1] at hl ⊢;have F:=Foot.draw hw ha;obtain ⟨n,hn⟩:=ih (q.cut (v.tape v.drawn q)) F.rel F.ag hl;refine ⟨n+1,fun τ d hp=>?_⟩;rw [e1];have e0:τ d q=v.tape v.drawn q:=hp 0 (Nat.succ_pos _) q;have:=hn τ (d+1) fun j hj q=>by
    have:=hp (1+j) (by omega) q;simp only [← Nat.add_assoc] at this;exact this
   show Sem.run P (k (q.cut (τ d q))) (reW { v with drawn:=v.drawn+1 } τ (d+1))=_;rw [e0,this,show d+(n+1)=d+1+n by omega]
 | program hk ih=>exact fun hw ha hl=>ih hw ha hl
 | @shape β r s k l h hk ih=>exact fun {v w} hw ha hl=>ih (v.shape? r) hw ha hl
 | @frozen β a b k l h hk ih=>exact fun {v w} hw ha hl=>ih (v.frozen? a) hw ha hl
 | room hk ih=>exact fun hw ha hl=>ih hw ha hl
 | panic=>exact fun hw ha hl=>absurd hl (not_live (α:=α) rfl)
 | dead h=>
  intro v w hw ha hl;obtain ⟨e,w',h1,h2⟩:=h v;rw [h1] at hl;exact absurd hl (not_live h2)
end
section
variable {P:Program} {L:Lim} {K:List Item} {β γ:Bl} {a b:Frame} {rc:List Frame} {v w:World}
def Shf (P:Program) (f:World→GStep) (v:World):Prop:=∀ g' v' es,f v=.go g' v' es→¬ Doomed P g'→∃ n,∀ τ d,Pre n v τ d→∃ es',f (reW v τ d)=.go g' (reW v' τ (d+n)) es'
theorem Shf.still {f:World→GStep} {g:Goroutine} (h:∀ u,f u=.go g u):Shf P f v:=fun g' v' es e _=>by
 rw [h] at e;cases e;exact ⟨0,fun τ d _=>⟨_,h _⟩⟩
theorem Shf.none {f:World→GStep} (h:∃ o v' es,f v=.ended o v' es):Shf P f v:=fun g' v' es e _=>by
 obtain ⟨o,v1,es1,h⟩:=h;rw [h] at e;cases e
theorem apply_shift {s t:Sem Next} (hs:SRel P L (RN L) β s t) (h:FRel P L K β a b) {as1 bs:List Frame} (hc:CsRel P L K rc β as1 bs) (hw:WRel L β v w) (ha:Agree v w) {ops:Array Oper} {i:Nat} {rest:List Nat} {k:List Item}
 (e:a.todo=.inRegion ops (i :: rest) :: k):Shf P (fun u=>stepG.apply P true a as1 none s u) v:=by
 intro g' v' es hgo hnd;have hr:=hs.run hw ha;have hsh:=hs.shift hw ha;unfold stepG.apply at hgo ⊢;simp only [Sem.runT_eq,if_true,e,h.ka] at hgo ⊢;cases hrun:s.run P v with
 | ok x v1=>
  rw [hrun] at hr hgo hsh;obtain ⟨n,hn⟩:=hsh trivial;obtain ⟨γ,y,w1,k1,F,hnx,hev⟩:=hr;cases hnx with
  | value hv=>
   simp only [GStep.after] at hgo ⊢;injection hgo with g1 g2 g3
   subst g1;subst g2;exact ⟨n,fun τ d hp=>by rw [hn τ d hp];exact ⟨_,rfl⟩⟩
  | skip=>
   simp only [GStep.after] at hgo ⊢;injection hgo with g1 g2 g3
   subst g1;subst g2;exact ⟨n,fun τ d hp=>by rw [hn τ d hp];exact ⟨_,rfl⟩⟩
  | enter f hf hv=>
   simp only [GStep.after] at hgo ⊢;injection hgo with g1 g2 g3
   subst g1;subst g2;exact ⟨n,fun τ d hp=>by rw [hn τ d hp];exact ⟨_,rfl⟩⟩
 | halt x v1=>
  rw [hrun] at hr hgo hsh;cases x with
  | panic x=>
   exfalso
   simp only [GStep.after] at hgo;injection hgo with g1 g2 g3
   subst g1;obtain ⟨e,he⟩:=raise_eq a [{ v:=x,recovered:=false }];exact hnd ⟨rfl,rfl,.inr ⟨⟨e,by rw [he]⟩,by rw [he];exact h.da,by rw [he];exact h.isF,hc.doom⟩⟩
  | unsupported u=>cases u<;>first | (simp only [GStep.after] at hgo;cases hgo;done) | (cases hr;done)
  | stuck s=>simp only [GStep.after] at hgo;cases hgo
  | _=>cases hr
theorem step_shift (hP:PL P L) (hg:P.globals.size≤L.g) {g h:Goroutine} (hG:GRel P L K rc β g h) (hw:WRel L β v w) (ha:Agree v w) (main:Bool):Shf P (fun u=>stepG P main g u) v:=by
 obtain ⟨fr,cs,st,dy,ofs⟩:=g;obtain ⟨fr',cs',st',dy',ofs'⟩:=h;obtain ⟨hfr,hcs,rfl,rfl,rfl,rfl⟩:=hG;simp only at hfr hcs;have hmode:=hfr.mode;obtain ⟨fn,tm,td,df,md,kd,ro⟩:=fr;obtain ⟨fn',tm',td',df',md',kd',ro'⟩:=fr';obtain rfl:fn=fn':=hfr.fn;have htd:TRel P L K td td':=hfr.todo;obtain rfl:df=[]:=hfr.da;obtain rfl:df'=[]:=hfr.db;obtain rfl:kd=.normal:=hfr.ka;obtain rfl:kd'=.normal:=hfr.kb;obtain rfl:ro=none:=hfr.ra;obtain rfl:ro'=none:=hfr.rb;simp only at hmode;obtain ⟨fnc,hfn⟩:=hfr.isF;simp only at hfn;cases md with
 | returning=>
  intro g' v' es hgo hnd
  have e0:∀ u,stepG P main { frame:={ fn:=fn,tmps:=tm,todo:=td,defers:=[],mode:=.returning,kind:=.normal,roundOf:=none },callers:=cs,status:=.running,dying:=none,offers:=ofs } u =
   unwind P main { fn:=fn,tmps:=tm,todo:=td,defers:=[],mode:=.returning,kind:=.normal,roundOf:=none } cs none u:=fun u=>rfl
  simp only [e0] at hgo ⊢;unfold unwind at hgo ⊢;simp only [hfn,Sem.runT_eq] at hgo ⊢;have hsh:=(rel_results (P:=P) (L:=L) fnc hfr.tmps).shift hw ha;simp only at hsh;cases hrun:(results fnc tm).run P v with
  | ok x v1=>
   rw [hrun] at hsh hgo;obtain ⟨n,hn⟩:=hsh trivial;cases hcs with
   | base=>
    simp only [doReturn,GStep.after] at hgo ⊢;injection hgo with g1 g2 g3
    subst g1;subst g2;exact ⟨n,fun τ d hp=>by rw [hn τ d hp];exact ⟨_,rfl⟩⟩
   | cons hc1 he1 hc2=>
    simp only [doReturn,GStep.after] at hgo ⊢;injection hgo with g1 g2 g3
    subst g1;subst g2;exact ⟨n,fun τ d hp=>by rw [hn τ d hp];exact ⟨_,rfl⟩⟩
  | halt x v1=>
   rw [hrun] at hgo;cases x<;>cases hgo
 | panicking c=>cases md'<;>exact (hmode:False).elim
 | run=>
  rcases htd.inv with ⟨rfl,rfl⟩ | ⟨rfl,rfl⟩ | ⟨i,k,l,rfl,rfl,hi,hk⟩ | ⟨c,cs,tail,K0,rfl,rfl,hi,hk⟩
  case inr.inr.inr=>exact Shf.still fun u=>rfl
  .exact Shf.still fun u=>rfl
  .exact Shf.none ⟨_,_,_,rfl⟩
  .skip
   cases i with
   | inBlock id=>exact Shf.still fun u=>rfl
   | inScope c=>exact (hi:False).elim
   | inRangeFunc l=>exact (hi:False).elim
   | endRangeFunc l=>exact (hi:False).elim
   | beginRound=>exact (hi:False).elim
   | call d wr r s=>exact (hi:False).elim
   | extern r xs=>exact (hi:False).elim
   | inLoop c=>exact Shf.still fun u=>rfl
   | inRegion ops todo=>
    cases todo with
    | nil=>exact Shf.still fun u=>rfl
    | cons i rest=>
     have e0:∀ (u:World),stepG P main { frame:={ fn:=fn,tmps:=tm,todo:=.inRegion ops (i :: rest) :: k,defers:=[],mode:=.run,kind:=.normal,roundOf:=none },callers:=cs,status:=.running,dying:=none,offers:=ofs } u =
      if ((ops[i]?).map (Region.wanted · (yielded ops tm))).getD false then stepG.oper P true { fn:=fn,tmps:=tm,todo:=.inRegion ops (i :: rest) :: k,defers:=[],mode:=.run,kind:=.normal,roundOf:=none } cs none u
      else .go { frame:=Frame.finish { fn:=fn,tmps:=tm,todo:=.inRegion ops (i :: rest) :: k,defers:=[],mode:=.run,kind:=.normal,roundOf:=none } undef,callers:=cs,status:=.running,dying:=none } u:=fun u=>rfl
     simp only [e0];split
     .rename_i hwant
      cases ho:ops[i]? with
      | none=>rw [ho] at hwant;cases hwant
      | some o=>
       have hop:OpOK P L o.op:=hi o (by rw [Array.mem_toList_iff];exact Array.mem_of_getElem? ho);have hs:=rel_op (P:=P) (L:=L) (β:=β) hP hg hop (ρ:=Frame.eval { fn:=fn,tmps:=tm,todo:=.inRegion ops (i :: rest) :: k,defers:=[],mode:=.run,kind:=.normal,roundOf:=none }) (σ:=Frame.eval { fn:=fn,tmps:=tm',todo:=.inRegion ops (i :: rest) :: l,defers:=[],mode:=.run,kind:=.normal,roundOf:=none }) fun x hx=>hfr.eval hx;have:=apply_shift hs hfr hcs hw ha (ops:=ops) (i:=i) (rest:=rest) (k:=k) rfl;unfold stepG.oper Frame.oper?;simp only [ho];exact this
     .exact Shf.still fun u=>rfl
   | code c=>
    cases c with
    | skip=>exact Shf.still fun u=>rfl
    | label l=>exact Shf.still fun u=>rfl
    | ret=>exact Shf.still fun u=>rfl
    | seq x y=>exact Shf.still fun u=>rfl
    | cond c x y=>
     have e0:∀ (u:World),stepG P main { frame:={ fn:=fn,tmps:=tm,todo:=.code (.cond c x y) :: k,defers:=[],mode:=.run,kind:=.normal,roundOf:=none },callers:=cs,status:=.running,dying:=none,offers:=ofs } u =
      match Frame.eval { fn:=fn,tmps:=tm,todo:=.code (.cond c x y) :: k,defers:=[],mode:=.run,kind:=.normal,roundOf:=none } c with
      | .bool b=>.go { frame:={ fn:=fn,tmps:=tm,todo:=.code (if b then x else y) :: k,defers:=[],mode:=.run,kind:=.normal,roundOf:=none },callers:=cs,status:=.running,dying:=none } u
      | _ => .ended (.stuck "cond: bool expected" (Frame.pos P { fn := fn, tmps := tm, todo := .code (.cond c x y) :: k, defers := [], mode := .run, kind := .normal, roundOf := none })) u := fun u => rfl
     simp only [e0];cases hev:Frame.eval { fn:=fn,tmps:=tm,todo:=.code (.cond c x y) :: k,defers:=[],mode:=.run,kind:=.normal,roundOf:=none } c with
     | bool t=>exact Shf.still fun u=>rfl
     | _=>exact Shf.none ⟨_,_,_,rfl⟩
    | block id c=>exact Shf.still fun u=>rfl
    | loop c=>exact Shf.still fun u=>rfl
    | exit id=>
     cases hx:exitTo id k with
     | some k'=>exact Shf.still (g:={ frame:={ fn:=fn,tmps:=tm,todo:=k',defers:=[],mode:=.run,kind:=.normal,roundOf:=none },callers:=cs,status:=.running,dying:=none }) fun u=>by simp [stepG,stepG.exec,hx]
     | none=>
      refine Shf.none ⟨.stuck "exit, goto: no such block or label" (Frame.pos P { fn := fn, tmps := tm, todo := .code (.exit id) :: k, defers := [], mode := .run, kind := .normal, roundOf := none }), v, #[], ?_⟩;simp [stepG,stepG.exec,hx]
    | region id ops draw=>
     cases draw with
     | false=>exact Shf.still fun u=>rfl
     | true=>
      have e0:∀ (u:World),stepG P main { frame:={ fn:=fn,tmps:=tm,todo:=.code (.region id ops true) :: k,defers:=[],mode:=.run,kind:=.normal,roundOf:=none },callers:=cs,status:=.running,dying:=none,offers:=ofs } u =
       .go { frame:={ fn:=fn,tmps:=tm,todo:=.inRegion ops (Region.schedule (P.follows .mixedOrders) ops (u.tape u.drawn (.order fn id))) :: k,defers:=[],mode:=.run,kind:=.normal,roundOf:=none },callers:=cs,status:=.running,dying:=none } { u with drawn:=u.drawn+1 }:=fun u=>by
       simp [stepG,stepG.exec,choose,Sem.run,Question.forced,Question.cut]
      intro g' v' es hgo hnd;simp only [e0] at hgo ⊢;injection hgo with g1 g2 g3
      subst g1;subst g2;refine ⟨1,fun τ d hp=>?_⟩;have h0:τ d (.order fn id)=v.tape v.drawn (.order fn id):=hp 0 Nat.one_pos _;rw [show (reW v τ d).tape (reW v τ d).drawn (.order fn id)=v.tape v.drawn (.order fn id) from h0];exact ⟨_,rfl⟩
    | scope c=>exact (hi:False).elim
    | goto l=>exact (hi:False).elim
    | rangeFunc f ps x y=>exact (hi:False).elim
    | refuse s=>exact (hi:False).elim
end
inductive Rch (P:Program) (S:Goroutine→World→Prop):Goroutine→World→Prop
 | stop {g:Goroutine} {v:World} (h:S g v):Rch P S g v
 | step {g g':Goroutine} {v v':World} {es:Array Event} (h:stepG P true g v=.go g' v' es) (k:Rch P S g' v'):Rch P S g v
def Mate (P:Program) (L:Lim) (g:Goroutine) (v:World):Prop:=∃ K rc β h w,GRel P L K rc β g h∧WRel L β v w∧Agree v w
inductive Tr (P:Program) (L:Lim) (S:Goroutine→World→Prop):Goroutine→World→Prop
 | stop {g:Goroutine} {v:World} (h:S g v):Tr P L S g v
 | step {g:Goroutine} {v:World} (hgo:∀ τ d,Mate P L g (reW v τ d)→∃ g' v' es,stepG P true g (reW v τ d)=.go g' v' es∧¬ Doomed P g')
  (h:∀ τ d g' v' es,Mate P L g (reW v τ d)→stepG P true g (reW v τ d)=.go g' v' es→Tr P L S g' v'):Tr P L S g v
section
variable {P:Program} {L:Lim} {S:Goroutine→World→Prop}
theorem Rch.next {g g':Goroutine} {v v':World} {es:Array Event} (h:Rch P S g v) (hn:¬ S g v) (hs:stepG P true g v=.go g' v' es):Rch P S g' v':=by
 cases h with
 | stop h=>exact absurd h hn
 | step h k=>rw [hs] at h;cases h;exact k
theorem rch_doomed (hT:∀ g v,S g v→¬ Doomed P g) {g:Goroutine} {v:World} (h:Rch P S g v):¬ Doomed P g:=by
 induction h with
 | stop h=>exact hT _ _ h
 | step h _ ih=>
  intro hd;rcases doomed_step hd true _ with ⟨o,v2,es3,h4⟩ | ⟨g2,h4,h5⟩
  .rw [h4] at h;cases h
  .rw [h4] at h;cases h;exact ih h5
def UptoC (D:Nat) (τ τ':Tp):Prop:=∀ k,k < D→∀ q,τ' k q=τ k q
structure BarSt (P:Program) (L:Lim) (S:Goroutine→World→Prop) where
 g:Goroutine
 v:World
 D:Nat
 τ:Tp
 no:¬ Tr P L S g v
 rch:∀ τ',UptoC D τ τ'→Rch P S g (reW v τ' D)
structure BarNx (x y:BarSt P L S):Prop where
 le:x.D≤y.D
 up:UptoC x.D x.τ y.τ
 st:∀ τ',UptoC y.D y.τ τ'→∃ es,stepG P true x.g (reW x.v τ' x.D)=.go y.g (reW y.v τ' y.D) es
theorem Mate.re {g:Goroutine} {v:World} {τ τ':Tp} {d d':Nat} (h:Mate P L g (reW v τ d)) (e:∀ j q,τ' (d'+j) q=τ (d+j) q):Mate P L g (reW v τ' d'):=by
 obtain ⟨K,rc,β,h,w,h1,h2,h3⟩:=h;exact ⟨K,rc,β,h,w,h1,⟨h2.blk,h2.inj,h2.sv,h2.sw⟩,fun j q=>(e j q).trans (h3 j q)⟩
theorem bar_next (hP:PL P L) (hg:P.globals.size≤L.g) (hF:FnsOK P L) (hS:∀ g v τ d,S g v→S g (reW v τ d)) (hT:∀ g v,S g v→¬ Doomed P g) (x:BarSt P L S):∃ y:BarSt P L S,BarNx x y:=by
 have hnS:∀ τ d,¬ S x.g (reW x.v τ d):=fun τ d h=>x.no (.stop (v:=x.v) (show S x.g (reW (reW x.v τ d) x.v.tape x.v.drawn) from hS _ _ _ _ h))
 -- answers given from D on
 have glue:∀ (τ:Tp) (d:Nat),∃ τ',UptoC x.D x.τ τ'∧∀ j q,τ' (x.D+j) q=τ (d+j) q:=fun τ d=>
  ⟨fun k q=>if k < x.D then x.τ k q else τ (d+(k - x.D)) q,fun k hk q=>by simp [hk],fun j q=>by simp;intro h;omega⟩
 have back:∀ (τ:Tp) (d:Nat),Mate P L x.g (reW x.v τ d)→∃ g' v' es,stepG P true x.g (reW x.v τ d)=.go g' v' es∧¬ Doomed P g':=fun τ d hm=>by
  obtain ⟨τ',h1,h2⟩:=glue τ d;have hr:=x.rch τ' h1;have hm':=hm.re (d':=x.D) h2;cases hr with
  | stop h=>exact absurd h (hnS _ _)
  | @step _ g1 _ v1 es1 h k=>
   obtain ⟨K,rc,β,hh,w,m1,m2,m3⟩:=hm';have hnd:=rch_doomed hT k;obtain ⟨n,hn⟩:=step_shift hP hg m1 m2 m3 true _ _ _ h hnd;obtain ⟨es2,he⟩:=hn τ d fun j _ q=>(h2 j q).symm;exact ⟨_,_,_,he,hnd⟩
 have hno:¬ ∀ τ d g' v' es,Mate P L x.g (reW x.v τ d)→stepG P true x.g (reW x.v τ d)=.go g' v' es→Tr P L S g' v':=fun h=>x.no (.step back h);simp only [Classical.not_forall] at hno;obtain ⟨τ,d,g',v',es,hm,hs,hnt⟩:=hno;obtain ⟨K,rc,β,hh,w,m1,m2,m3⟩:=hm;have hnd:¬ Doomed P g':=by
  obtain ⟨g2,v2,es2,h1,h2⟩:=back τ d ⟨K,rc,β,hh,w,m1,m2,m3⟩;rw [h1] at hs;cases hs;exact h2
 obtain ⟨n,hn⟩:=step_shift hP hg m1 m2 m3 true _ _ _ hs hnd;obtain ⟨τ1,u1,u2⟩:=glue τ d;have st:∀ τ',UptoC (x.D+n) τ1 τ'→∃ es,stepG P true x.g (reW x.v τ' x.D)=.go g' (reW v' τ' (x.D+n)) es:=fun τ' hu=>
  hn τ' x.D fun j hj q=>(hu (x.D+j) (by omega) q).trans (u2 j q)
 refine ⟨⟨g',v',x.D+n,τ1,hnt,fun τ' hu=>?_⟩,⟨by simp,u1,st⟩⟩;have hr:=x.rch τ' fun k hk q=>(hu k (by omega) q).trans (u1 k hk q);obtain ⟨es',he⟩:=st τ' hu;exact hr.next (hnS _ _) he
theorem bar (hP:PL P L) (hg:P.globals.size≤L.g) (hF:FnsOK P L) (hS:∀ g v τ d,S g v→S g (reW v τ d)) (hT:∀ g v,S g v→¬ Doomed P g) {g:Goroutine} {v:World} (h:∀ τ,Rch P S g (reW v τ 0)):Tr P L S g v:=by
 refine Classical.byContradiction fun hno=>?_
 let x0:BarSt P L S:=⟨g,v,0,fun _ _=>0,hno,fun τ _=>h τ⟩
 let nx:BarSt P L S→BarSt P L S:=fun x=>Classical.choose (bar_next hP hg hF hS hT x)
 have hnx:∀ x,BarNx x (nx x):=fun x=>Classical.choose_spec (bar_next hP hg hF hS hT x)
 let s:Nat→BarSt P L S:=fun i=>Nat.rec x0 (fun _ x=>nx x) i
 have hs:∀ i,BarNx (s i) (s (i+1)):=fun i=>hnx (s i);have mono:∀ i j,(s i).D≤(s (i+j)).D∧UptoC (s i).D (s i).τ (s (i+j)).τ:=fun i j=>by
  induction j with
  | zero=>exact ⟨Nat.le_refl _,fun k _ q=>rfl⟩
  | succ j ih=>
   have hj:=hs (i+j);exact ⟨Nat.le_trans ih.1 hj.le,fun k hk q=>(hj.up k (Nat.lt_of_lt_of_le hk ih.1) q).trans (ih.2 k hk q)⟩
 have same:∀ i j k,k < (s i).D→k < (s j).D→∀ q,(s i).τ k q=(s j).τ k q:=fun i j k hi hj q=>by
  rcases Nat.le_total i j with h | h
  .obtain ⟨m,rfl⟩:=Nat.exists_eq_add_of_le h;exact ((mono i m).2 k hi q).symm
  .obtain ⟨m,rfl⟩:=Nat.exists_eq_add_of_le h;exact (mono j m).2 k hj q
 have hτ:∃ τ:Tp,∀ i,UptoC (s i).D (s i).τ τ:=by
  refine ⟨fun k q=>open Classical in if h:∃ i,k < (s i).D then (s (Classical.choose h)).τ k q else 0,fun i k hk q=>?_⟩;have h:∃ i,k < (s i).D:=⟨i,hk⟩;simp only [dif_pos h];exact same _ _ _ (Classical.choose_spec h) hk q
 obtain ⟨τ,hτ⟩:=hτ;have key:∀ g v,Rch P S g v→∀ i,g=(s i).g→v=reW (s i).v τ (s i).D→False:=by
  intro g v hr
  induction hr with
  | stop h=>
   rintro i rfl rfl;exact (s i).no (.stop (v:=(s i).v) (show S (s i).g (reW (reW (s i).v τ (s i).D) (s i).v.tape (s i).v.drawn) from hS _ _ _ _ h))
  | step h k ih=>
   rintro i rfl rfl;obtain ⟨es,he⟩:=(hs i).st τ (hτ (i+1));rw [he] at h;cases h;exact ih (i+1) rfl rfl
 exact key _ _ ((s 0).rch τ (hτ 0)) 0 rfl rfl
end
section
variable {P:Program} {L:Lim} {S:Goroutine→World→Prop} {rc:List Frame}
theorem runT_solo_ended {a:Goroutine} {w w':World} {o:Outcome} {es:Array Event} (h:stepG P true a w=.ended o w' es):runT P (solo a w) 0=(.ended o w',MemOp.ofEvents 0 a.frame.fn a.frame.place es):=by
 simp [runT,solo,Array.swapAt!,Array.swapAt,h,GStep.es]
theorem step_solo_ended {a:Goroutine} {w w':World} {o:Outcome} {es:Array Event} (hs:a.status=.running) (h:stepG P true a w=.ended o w' es):step P (solo a w)=.ended o w':=by
 unfold step;rw [stepT_solo hs,runT_solo_ended h]
theorem step_solo_go {a a':Goroutine} {w w':World} {es:Array Event} (hs:a.status=.running) (h:stepG P true a w=.go a' w' es):step P (solo a w)=.next (solo a' w'):=by
 unfold step;rw [stepT_solo hs,runT_solo_go h]
theorem solo_inj {a b:Goroutine} {v w:World} (h:solo a v=solo b w):a=b∧v=w:=by
 unfold solo at h;injection h with h1 h2 h3
 exact ⟨by simpa using h2,h1⟩
theorem doomed_run:∀ (n:Nat) (g g1:Goroutine) (v v1:World),Doomed P g→runN P n (solo g v)=.next (solo g1 v1)→Doomed P g1:=by
 intro n
 induction n with
 | zero=>
  intro g g1 v v1 hd hr;simp only [runN] at hr;injection hr with hr
  obtain ⟨rfl,rfl⟩:=solo_inj hr;exact hd
 | succ n ih=>
  intro g g1 v v1 hd hr;rcases doomed_step hd true v with ⟨o,v2,es,he⟩ | ⟨g2,he,h2⟩
  .simp only [runN,step_solo_ended hd.1 he] at hr;cases hr
  .simp only [runN,step_solo_go hd.1 he] at hr;exact ih _ _ _ _ h2 hr
theorem rch_of_run (hP:PL P L) (hg:P.globals.size≤L.g) (hF:FnsOK P L) (hT:∀ g v,S g v→¬ Doomed P g) {g1:Goroutine} {v1:World} (h1:S g1 v1) :
 ∀ (n:Nat) (g:Goroutine) (v:World),Mate P L g v→runN P n (solo g v)=.next (solo g1 v1)→Rch P S g v:=by
 intro n
 induction n with
 | zero=>
  intro g v hm hr;simp only [runN] at hr;injection hr with hr
  obtain ⟨rfl,rfl⟩:=solo_inj hr;exact .stop h1
 | succ n ih=>
  intro g v hm hr;obtain ⟨K,rc,β,h,w,m1,m2,m3⟩:=hm;rcases step_rel hP hg hF m1 m2 m3 true true with ⟨o,v',es,he⟩ | ⟨g',v',es,he,hk⟩
  .simp only [runN,step_solo_ended m1.sg he] at hr;cases hr
  .simp only [runN,step_solo_go m1.sg he] at hr;rcases hk with ht | ⟨γ,h',w',fs,_,F,hG,_⟩
   .exact absurd (doomed_run n _ _ _ _ ht hr) (hT _ _ h1)
   .exact .step he (ih g' v' ⟨K,rc,γ,h',w',hG,F.rel,F.ag⟩ hr)
theorem semAssoc {α β γ:Type} (s:Sem α) (f:α→Sem β) (g:β→Sem γ):((s >>= f) >>= g)=(s >>= fun a=>f a >>= g):=by
 show Sem.bind (Sem.bind s f) g=Sem.bind s _
 induction s with
 | pure a=>rfl
 | load m a k ih=>simp only [Sem.bind];congr 1;exact funext ih
 | store m a v k ih=>simp only [Sem.bind];congr 1
 | new o k ih=>simp only [Sem.bind];congr 1;exact funext ih
 | shape r k ih=>simp only [Sem.bind];congr 1;exact funext ih
 | freeze a n k ih=>simp only [Sem.bind];congr 1
 | frozen a k ih=>simp only [Sem.bind];congr 1;exact funext ih
 | getObj r k ih=>simp only [Sem.bind];congr 1;exact funext ih
 | setObj r o k ih=>simp only [Sem.bind];congr 1
 | choose q k ih=>simp only [Sem.bind];congr 1;exact funext ih
 | sys c k ih=>simp only [Sem.bind];congr 1;exact funext ih
 | program k ih=>simp only [Sem.bind];congr 1;exact funext ih
 | mark m k ih=>simp only [Sem.bind];congr 1
 | halt h=>rfl
def TmpRes (fn:Func):Prop:=∀ r∈fn.results.toList,∃ t,r=.tmp t
theorem tmpRes_run {fn:Func} (h:TmpRes fn) (tmps:Array Value):∃ x,∀ u es,(results fn tmps).runT P u es=(.ok x u,es):=by
 unfold results;rw [Array.mapM_eq_mapM_toList]
 have key:∀ l:List ResultVar,(∀ r∈l,∃ t,r=.tmp t)→∃ xs:List Value,∀ (α:Type) (f:List Value→Sem α) (u:World) (es:Array Event),
  ((l.mapM fun x:ResultVar=>match x with | .tmp t=>(Pure.pure (tmps.getD t undef):Sem Value) | .cell a t=>do loadVar t (← asAddr (tmps.getD a undef))) >>= f).runT P u es=(f xs).runT P u es:=by
  intro l
  induction l with
  | nil=>exact fun _=>⟨[],fun α f u es=>rfl⟩
  | cons r l ih=>
   intro h;obtain ⟨xs,hx⟩:=ih fun r hr=>h r (List.mem_cons_of_mem _ hr);obtain ⟨t,rfl⟩:=h r List.mem_cons_self;refine ⟨tmps.getD t undef :: xs,fun α f u es=>?_⟩;rw [List.mapM_cons];show ((((l.mapM _) >>= fun bs=>Pure.pure (tmps.getD t undef :: bs)) >>= f:Sem α)).runT P u es=_;rw [semAssoc];exact hx _ _ _ _
 obtain ⟨xs,hx⟩:=key fn.results.toList h;refine ⟨if h:xs.toArray.size=1 then xs.toArray[0] else .tuple xs.toArray,fun u es=>?_⟩;have e0:∀ s:Sem (List Value),(List.toArray <$> s)=s >>= fun l=>Pure.pure l.toArray:=fun s=>rfl;rw [e0,semAssoc];exact hx Value (fun l=>Pure.pure (if h:l.toArray.size=1 then l.toArray[0] else .tuple l.toArray)) u es
end

