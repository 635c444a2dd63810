/- -/
import Derived.Lib.LazyBuf
import Derived.Test.YtiblbnkpjmmjaaaGreatQ14
set_option maxRecDepth 100000
set_option maxHeartbeats 16000000
set_option linter.all false
namespace Go.Proofs.YtiblbnkpjmmjaaaGreat
open Go.RowKit
theorem OwI.ob2 {w:World} {D n c:Nat} {A:Option Addr} {xs:List Int} (h:OwI w D A n c xs):∀ k,(Value.slice A n c).ownBlock=some k→D≤k∧k < w.heap.size:=by
 intro k hk;cases A with
 | none=>cases hk
 | some p=>obtain ⟨g,o,s⟩:=p;cases hk;exact h.bd _ _ _ rfl
structure PB (w1 wr:World) (x:Int) (A:Option Addr) (cA:Nat) (xs:List Int):Prop where
 c0:wr.cell? ⟨w1.heap.size,0,none⟩=some (.int .i64 x)
 c1:wr.cell? ⟨w1.heap.size,1,none⟩=some (.slice A xs.length cA)
 fr:∀ j,wr.frozen? ⟨w1.heap.size,j,none⟩=false
 oA:OwI wr (w1.heap.size+1) A xs.length cA xs
 ex:Ext w1 wr
theorem PB.lt {w1 wr:World} {x:Int} {A:Option Addr} {cA:Nat} {xs:List Int} (h:PB w1 wr x A cA xs):w1.heap.size < wr.heap.size:=World.block_lt_of_cell? wr _ h.c0
section
variable {w1 wr wx:World} {x y:Int} {A:Option Addr} {cA g cap:Nat} {xs:List Int} {o:Obj}
theorem PB.ext (h:PB w1 wr x A cA xs) (k:Ext wr wx):PB w1 wx x A cA xs:=
 ⟨Ext.keep k h.c0,Ext.keep k h.c1,fun j=>(Below.frozen (p:=⟨w1.heap.size,j,none⟩) k h.lt).trans (h.fr j),h.oA.ext k,h.ex.trans k⟩
theorem PB.new (w1:World) (x:Int) (t:TypeId):PB w1 (w1.alloc (.cells #[.int .i64 x,.slice none 0 0] t)) x none 0 []:=
 ⟨by simp [go_sem],by simp [go_sem],fun j=>by simp [go_sem],⟨by simp,World.ownsRow_nil _ _ _ _⟩,(Ext.refl _).alloc _⟩
theorem PB.setC (h:PB w1 wr x A cA xs) (y:Int):PB w1 (wr.setCell ⟨w1.heap.size,0,none⟩ (.int .i64 y)) y A cA xs:=by
 refine ⟨World.cell?_setCell_same _ _ _ h.c0,?_,fun j=>by rw [World.frozen?_setCell];exact h.fr j,?_,h.ex.set (Nat.le_refl _) _⟩
 .rw [World.cell?_setCell_other _ _ _ _ (by simp)];exact h.c1
 .exact h.oA.setFar _ fun g' o' s' e=>by have:=(h.oA.bd _ _ _ e).1;simp;omega
theorem PB.setE {o s} (h:PB w1 wr x (some ⟨g,o,s⟩) cA xs) (k:Nat) (y:Int):PB w1 (wr.setCell ⟨g,k,none⟩ (.int .i64 y)) x (some ⟨g,0,none⟩) cA (xs.set k y):=by
 have hb:=h.oA.bd _ _ _ rfl;have hA:(some ⟨g,o,s⟩:Option Addr)=some ⟨g,0,none⟩:=by
  rcases h.oA.form with ⟨h0,_⟩ | ⟨g',hA',_⟩
  .cases h0
  .cases hA';rfl
 rw [hA] at h;refine ⟨?_,?_,fun j=>by rw [World.frozen?_setCell];exact h.fr j,?_,h.ex.set (by show _≤g;omega) _⟩
 .rw [World.cell?_setCell_other _ _ _ _ (by first | (simp;done) | (simp;omega))];exact h.c0
 .rw [World.cell?_setCell_other _ _ _ _ (by first | (simp;done) | (simp;omega)),List.length_set];exact h.c1
 .rw [List.length_set];exact h.oA.set k y
theorem PB.far (h:PB w1 wr x A cA xs) (hg:(wr.alloc o).grownBy wx (Value.slice A xs.length cA).ownBlock) :
 (∀ j,wx.cell? ⟨w1.heap.size,j,none⟩=wr.cell? ⟨w1.heap.size,j,none⟩)∧∀ j,wx.frozen? ⟨w1.heap.size,j,none⟩=false:=by
 have hlt1:=h.lt;have hsz:wr.heap.size < (wr.alloc o).heap.size:=by simp [go_sem]
 have hk3:wx.heap[w1.heap.size]?=wr.heap[w1.heap.size]?:=(hg.block _ (by omega) (fun e=>by have:=h.oA.ob2 _ e.symm;omega)).trans ((Ext.alloc (Ext.refl wr) o).block _ hlt1);exact ⟨fun j=>World.cell?_of_block hk3,fun j=>(World.frozen?_of_block hk3).trans (h.fr j)⟩
theorem PB.grown (h:PB w1 wr x A cA xs) (hg:(wr.alloc o).grownBy wx (Value.slice A xs.length cA).ownBlock):Ext w1 wx:=
 Ext.grown (h.ex.alloc o) hg (fun k hk=>by have:=h.oA.ob2 k hk;omega)
theorem PB.push (h:PB w1 wr x A cA xs) (hn:xs.length+1≤4194304)
 (hown:wx.ownsRow (w1.heap.size+1) 2 1 (.slice (some ⟨g,0,none⟩) (xs.length+1) cap) (xs.length+1) (xs.map (Value.int .i64)++[.int .i64 y]))
 (hg:(wr.alloc o).grownBy wx (Value.slice A xs.length cA).ownBlock) (hat:(Value.slice A xs.length cA).ownBlock=some g∨g=(wr.alloc o).heap.size) (hlt:g < wx.heap.size) :
 PB w1 (wx.setCell ⟨w1.heap.size,1,none⟩ (.slice (some ⟨g,0,none⟩) (xs.length+1) cap)) x (some ⟨g,0,none⟩) cap (xs++[y]):=by
 have hlt1:=h.lt;have hsz:wr.heap.size < (wr.alloc o).heap.size:=by simp [go_sem]
 have hF:=h.far hg;have hgne:g≠w1.heap.size:=by
  rcases hat with e | e
  .have:=h.oA.ob2 _ e;omega
  .omega
 have hc1:wx.cell? ⟨w1.heap.size,1,none⟩=some (.slice A xs.length cA):=(hF.1 1).trans h.c1;refine ⟨?_,?_,fun j=>by rw [World.frozen?_setCell];exact hF.2 j,?_,(h.grown hg).set (Nat.le_refl _) _⟩
 .rw [World.cell?_setCell_other _ _ _ _ (by simp),hF.1];exact h.c0
 .rw [List.length_append];exact World.cell?_setCell_same _ _ _ hc1
 .refine OwI.setFar ?_ _ (fun g' o' s' e=>by cases e;exact hgne);rw [List.length_append];exact ⟨hn,by simpa using hown⟩
end
end Go.Proofs.YtiblbnkpjmmjaaaGreat
namespace Go.Proofs.YtiblbnkpjmmjaaaGreat
structure Pl where
 c:Int
 cf:List Int
def PlAt (n:Int) (p:Pl):Prop:=(p.cf.length:Int)=n∧(0≤p.c∧p.c≤9)∧∀ x∈p.cf,0≤x∧x≤9
def PolysP (ar:List Int) (ps:List Pl):Prop:=SigP ar∧ps.length=ar.length∧∀ (j:Nat) (p:Pl) (n:Int),ps[j]?=some p→ar[j]?=some n→PlAt n p
noncomputable def plAt (n:Int) (p:Pl):Bool:=@decide (PlAt n p) (Classical.propDecidable _)
theorem plAt_t {n:Int} {p:Pl} (h:PlAt n p):plAt n p=true:=by simp only [plAt,decide_eq_true_eq];exact h
theorem plAt_f {n:Int} {p:Pl} (h:¬ PlAt n p):plAt n p=false:=by simp only [plAt,decide_eq_false_iff_not];exact h
noncomputable def polysOk (ar:List Int) (ps:List Pl):Bool:=@decide (PolysP ar ps) (Classical.propDecidable _)
theorem polysOk_iff {ar:List Int} {ps:List Pl}:polysOk ar ps=true↔PolysP ar ps:=by simp [polysOk]
theorem polysOk_f {ar:List Int} {ps:List Pl} (h:¬ PolysP ar ps):polysOk ar ps=false:=by simp only [polysOk,decide_eq_false_iff_not];exact h
theorem polysOk_sig {ar:List Int} {ps:List Pl} (h:sigOk ar=false):polysOk ar ps=false:=polysOk_f fun a=>by rw [sigOk_iff.2 a.1] at h;cases h
theorem polysOk_len {ar:List Int} {ps:List Pl} (h:¬ ps.length=ar.length):polysOk ar ps=false:=polysOk_f fun a=>h a.2.1
theorem polysOk_at {ar:List Int} {ps:List Pl} {k:Nat} {p:Pl} {n:Int} (hp:ps[k]?=some p) (hn:ar[k]?=some n) (h:¬ PlAt n p):polysOk ar ps=false:=polysOk_f fun a=>h (a.2.2 k p n hp hn)
theorem polysOk_all {ar:List Int} {ps:List Pl} (h1:sigOk ar=true) (h2:ps.length=ar.length) (h:∀ (j:Nat) (p:Pl) (n:Int),j < ps.length→ps[j]?=some p→ar[j]?=some n→PlAt n p):polysOk ar ps=true:=
 polysOk_iff.2 ⟨sigOk_iff.1 h1,h2,fun j p n hp hn=>h j p n (List.getElem?_eq_some_iff.1 hp).1 hp hn⟩
def addL:List Int→List Int→Int→List Int
 | as1,[],_=>as1
 | [],b :: bs,m=>m * b :: addL [] bs m
 | a :: as1,b :: bs,m=>(a+m * b) :: addL as1 bs m
theorem addL_nil (as1:List Int) (m:Int):addL as1 [] m=as1:=by cases as1<;>rfl
theorem addL_len:∀ (as1 bs:List Int) (m:Int),(addL as1 bs m).length=max as1.length bs.length
 | as1,[],m=>by rw [addL_nil];simp
 | [],b :: bs,m=>by rw [addL,List.length_cons,addL_len];simp
 | a :: as1,b :: bs,m=>by rw [addL,List.length_cons,addL_len];simp
theorem addL_get:∀ (as1 bs:List Int) (m:Int) (j:Nat),(addL as1 bs m).getD j 0=as1.getD j 0+m * bs.getD j 0
 | as1,[],m,j=>by rw [addL_nil];simp
 | [],b :: bs,m,0=>by simp [addL]
 | [],b :: bs,m,j+1=>by
  have:=addL_get [] bs m j
  simpa [addL] using this
 | a :: as1,b :: bs,m,0=>by simp [addL]
 | a :: as1,b :: bs,m,j+1=>by
  have:=addL_get as1 bs m j
  simpa [addL] using this
theorem list_eq_getD {as1 bs:List Int} (hl:as1.length=bs.length) (h:∀ j,j < as1.length→as1.getD j 0=bs.getD j 0):as1=bs:=by
 apply List.ext_getElem hl;intro j h1 h2;have:=h j h1
 simpa [List.getD_eq_getElem?_getD,List.getElem?_eq_getElem h1,List.getElem?_eq_getElem h2] using this
def addP (a b:Pl) (m:Int):Pl:=⟨a.c+m * b.c,addL a.cf b.cf m⟩
def sumTo (p:Pl) (fs:List Pl):Nat→Pl
 | 0=>⟨p.c,[]⟩
 | k+1=>addP (sumTo p fs k) (fs.getD k ⟨0,[]⟩) (p.cf.getD k 0)
def Big (f:Pl):Prop:=1000000000000 < f.c∨∃ x∈f.cf,1000000000000 < x
def Upto (M:Int) (f:Pl):Prop:=(0≤f.c∧f.c≤M)∧∀ x∈f.cf,0≤x∧x≤M
def Fm (f:Pl):Prop:=Upto 1000000000000 f∧f.cf.length≤24
theorem Upto.getD {M:Int} {f:Pl} (h:Upto M f) (hM:0≤M) (j:Nat):0≤f.cf.getD j 0∧f.cf.getD j 0≤M:=by
 rw [List.getD_eq_getElem?_getD];rcases hj:f.cf[j]? with _ | x
 .simpa using hM
 .exact h.2 x (List.mem_of_getElem? hj)
theorem Upto.of_getD {M:Int} {f:Pl} (hc:0≤f.c∧f.c≤M) (h:∀ j,j < f.cf.length→0≤f.cf.getD j 0∧f.cf.getD j 0≤M):Upto M f:=by
 refine ⟨hc,fun x hx=>?_⟩;obtain ⟨j,hj,rfl⟩:=List.mem_iff_getElem.1 hx;have:=h j hj
 rwa [List.getD_eq_getElem?_getD,List.getElem?_eq_getElem hj] at this
theorem mul_bd {m x:Int} (hm:0≤m∧m≤9) {M:Int} (hx:0≤x∧x≤M):0≤m * x∧m * x≤9 * M:=
 ⟨Int.mul_nonneg hm.1 hx.1,Int.le_trans (Int.mul_le_mul_of_nonneg_right hm.2 hx.1) (Int.mul_le_mul_of_nonneg_left hx.2 (by omega))⟩
theorem addP_upto {A B:Int} {a b:Pl} {m:Int} (ha:Upto A a) (hA:0≤A) (hb:Upto B b) (hB:0≤B) (hm:0≤m∧m≤9):Upto (A+9 * B) (addP a b m):=by
 have h1:=mul_bd hm hb.1;refine Upto.of_getD ⟨?_,?_⟩ fun j hj=>?_
 .show 0≤a.c+m * b.c;have:=ha.1;omega
 .show a.c+m * b.c≤_;have:=ha.1;omega
 .show 0≤(addL a.cf b.cf m).getD j 0∧_;rw [show (addP a b m).cf=addL a.cf b.cf m from rfl,addL_get];have h2:=ha.getD hA j;have h3:=mul_bd hm (hb.getD hB j);omega
def Parts (p:Pl) (fs:List Pl):Prop:=(0≤p.c∧p.c≤9)∧(∀ x∈p.cf,0≤x∧x≤9)∧fs.length≤3∧∀ f∈fs,Fm f
theorem Parts.get {p:Pl} {fs:List Pl} (h:Parts p fs) (k:Nat):Upto 1000000000000 (fs.getD k ⟨0,[]⟩)∧(fs.getD k ⟨0,[]⟩).cf.length≤24:=by
 rw [List.getD_eq_getElem?_getD];rcases hk:fs[k]? with _ | f
 .exact ⟨⟨by simp,by simp⟩,by simp⟩
 .exact h.2.2.2 f (List.mem_of_getElem? hk)
theorem Parts.fac {p:Pl} {fs:List Pl} (h:Parts p fs) (k:Nat):0≤p.cf.getD k 0∧p.cf.getD k 0≤9:=by
 rw [List.getD_eq_getElem?_getD];rcases hk:p.cf[k]? with _ | f
 .simp
 .exact h.2.1 f (List.mem_of_getElem? hk)
theorem sumTo_upto {p:Pl} {fs:List Pl} (h:Parts p fs):∀ k:Nat,Upto (9+9 * (k * 1000000000000)) (sumTo p fs k)∧(sumTo p fs k).cf.length≤24
 | 0=>⟨⟨⟨h.1.1,by have:=h.1.2;show p.c≤_;omega⟩,by simp [sumTo]⟩,by simp [sumTo]⟩
 | k+1=>by
  obtain ⟨h1,h2⟩:=sumTo_upto h k;obtain ⟨h3,h4⟩:=h.get k;have h5:=addP_upto h1 (by omega) h3 (by omega) (h.fac k);refine ⟨?_,?_⟩
  .show Upto _ (addP _ _ _);refine ⟨⟨h5.1.1,by have:=h5.1.2;omega⟩,fun x hx=>?_⟩;have:=h5.2 x hx;omega
  .show (addL _ _ _).length≤24;rw [addL_len];omega
theorem Big.iff {f:Pl}:Big f↔1000000000000 < f.c∨∃ j,j < f.cf.length∧1000000000000 < f.cf.getD j 0:=by
 constructor
 .rintro (h | ⟨x,hx,h⟩)
  .exact .inl h
  .obtain ⟨j,hj,rfl⟩:=List.mem_iff_getElem.1 hx;exact .inr ⟨j,hj,by rwa [List.getD_eq_getElem?_getD,List.getElem?_eq_getElem hj]⟩
 .rintro (h | ⟨j,hj,h⟩)
  .exact .inl h
  .exact .inr ⟨_,List.getElem_mem hj,by rwa [List.getD_eq_getElem?_getD,List.getElem?_eq_getElem hj] at h⟩
theorem Big.step {p:Pl} {fs:List Pl} (h:Parts p fs) {k:Nat} (hb:Big (sumTo p fs k)):Big (sumTo p fs (k+1)):=by
 obtain ⟨h3,_⟩:=h.get k;have hm:=h.fac k;rw [Big.iff] at hb ⊢;rcases hb with hb | ⟨j,hj,hb⟩
 .left
  show _ < (sumTo p fs k).c+_ * _;have:=mul_bd hm h3.1;omega
 .right
  refine ⟨j,?_,?_⟩
  .show j < (addL _ _ _).length;rw [addL_len];omega
  .show _ < (addL _ _ _).getD j 0;rw [addL_get];have:=mul_bd hm (h3.getD (by omega) j);omega
theorem Big.mono {p:Pl} {fs:List Pl} (h:Parts p fs) {k n:Nat} (hkn:k≤n) (hb:Big (sumTo p fs k)):Big (sumTo p fs n):=by
 induction n with
 | zero=>
  obtain rfl:k=0:=by omega
  exact hb
 | succ n ih=>
  rcases Nat.lt_or_ge k (n+1) with h1 | h1
  .exact Big.step h (ih (by omega))
  .obtain rfl:k=n+1:=by omega
   exact hb
theorem fm_of_not_big {p:Pl} {fs:List Pl} (h:Parts p fs) {k:Nat} (hb:¬ Big (sumTo p fs k)):Fm (sumTo p fs k):=by
 obtain ⟨h1,h2⟩:=sumTo_upto h k;refine ⟨⟨⟨h1.1.1,?_⟩,fun x hx=>⟨(h1.2 x hx).1,?_⟩⟩,h2⟩
 .have:¬ 1000000000000 < (sumTo p fs k).c:=fun h=>hb (.inl h);omega
 .have:¬ 1000000000000 < x:=fun h=>hb (.inr ⟨x,hx,h⟩);omega
open Classical in
noncomputable def appP (p:Pl) (fs:List Pl):Option Pl:=if Big (sumTo p fs fs.length) then none else some (sumTo p fs fs.length)
def varPl (x:Int):Pl:=⟨0,List.replicate ((-x).toNat - 1) 0++[1]⟩
mutual
noncomputable def form (ps:List Pl):Tm→Option Pl
 | .node x us=>if x < 0 then some (varPl x) else (formL ps us).bind fun fs=>appP (ps.getD x.toNat ⟨0,[]⟩) fs
noncomputable def formL (ps:List Pl):List Tm→Option (List Pl)
 | []=>some []
 | a :: us=>(form ps a).bind fun f=>(formL ps us).map fun fs=>f :: fs
end
theorem form_node (ps:List Pl) (x:Int) (us:List Tm):form ps (.node x us)=if x < 0 then some (varPl x) else (formL ps us).bind fun fs=>appP (ps.getD x.toNat ⟨0,[]⟩) fs:=by rw [form]
theorem formL_nil (ps:List Pl):formL ps []=some []:=by rw [formL]
theorem formL_cons (ps:List Pl) (a:Tm) (us:List Tm):formL ps (a :: us)=(form ps a).bind fun f=>(formL ps us).map fun fs=>f :: fs:=by rw [formL]
theorem formL_none {ps:List Pl}:∀ {us:List Tm} {j:Nat} {a:Tm},us[j]?=some a→form ps a=none→formL ps us=none
 | b :: us,0,a,h,hf=>by simp at h;subst h;rw [formL_cons,hf];rfl
 | b :: us,j+1,a,h,hf=>by
  rw [formL_cons,formL_none (by simpa using h) hf];cases form ps b<;>rfl
theorem formL_some {ps:List Pl}:∀ {us:List Tm} {fs:List Pl},fs.length=us.length→(∀ (j:Nat) (a:Tm) (f:Pl),us[j]?=some a→fs[j]?=some f→form ps a=some f)→formL ps us=some fs
 | [],[],_,_=>by rw [formL_nil]
 | [],f :: fs,h,_=>by simp at h
 | b :: us,[],h,_=>by simp at h
 | b :: us,f :: fs,hl,h=>by
  rw [formL_cons,h 0 b f rfl rfl,formL_some (by simpa using hl) (fun j a g e1 e2=>h (j+1) a g (by simpa using e1) (by simpa using e2))]
  rfl
theorem varPl_fm {x:Int} (h:x < 0) (h2 : -24≤x):Fm (varPl x):=by
 refine ⟨⟨⟨Int.le_refl _,by show (0:Int)≤1000000000000;omega⟩,fun y hy=>?_⟩,?_⟩
 .simp only [varPl,List.mem_append,List.mem_replicate,List.mem_singleton] at hy;omega
 .simp only [varPl,List.length_append,List.length_replicate,List.length_singleton];omega
mutual
theorem form_fm {ar:List Int} {ps:List Pl} (hps:∀ p∈ps,(0≤p.c∧p.c≤9)∧∀ x∈p.cf,0≤x∧x≤9) (h3:∀ (x:Int) (a:Nat),arI ar x=some a→a≤3):∀ (u:Tm),u.Ok ar→(∀ y∈u.flat,-24≤y)→∀ f,form ps u=some f→Fm f
 | .node x us,hu,hv,f,h=>by
  rw [form_node] at h;by_cases hx:x < 0
  .rw [if_pos hx] at h;cases h;exact varPl_fm hx (hv x (by rw [flat_node];exact List.mem_cons_self))
  .rw [if_neg hx] at h;obtain ⟨fs,h1,h2⟩:=Option.bind_eq_some_iff.1 h;obtain ⟨hk,hl⟩:=Ok_node.1 hu;obtain ⟨hfs,hlen⟩:=formL_fm hps h3 us hl (fun y hy=>hv y (by rw [flat_node];exact List.mem_cons_of_mem _ hy)) fs h1;have hp:(0≤(ps.getD x.toNat ⟨0,[]⟩).c∧(ps.getD x.toNat ⟨0,[]⟩).c≤9)∧∀ y∈(ps.getD x.toNat ⟨0,[]⟩).cf,0≤y∧y≤9:=by
    rw [List.getD_eq_getElem?_getD];rcases hj:ps[x.toNat]? with _ | p
    .simp
    .exact hps p (List.mem_of_getElem? hj)
   have hP:Parts (ps.getD x.toNat ⟨0,[]⟩) fs:=⟨hp.1,hp.2,by have:=h3 x _ hk;omega,hfs⟩;unfold appP at h2;split at h2
   .cases h2
   .rename_i hb
    cases h2;exact fm_of_not_big hP hb
theorem formL_fm {ar:List Int} {ps:List Pl} (hps:∀ p∈ps,(0≤p.c∧p.c≤9)∧∀ x∈p.cf,0≤x∧x≤9) (h3:∀ (x:Int) (a:Nat),arI ar x=some a→a≤3):∀ (us:List Tm),OkL ar us→(∀ y∈flatL us,-24≤y)→∀ fs,formL ps us=some fs→(∀ f∈fs,Fm f)∧fs.length=us.length
 | [],_,_,fs,h=>by rw [formL_nil] at h;cases h;exact ⟨fun f hf=>(by cases hf),rfl⟩
 | a :: us,hu,hv,fs,h=>by
  rw [formL_cons] at h;obtain ⟨f,h1,h2⟩:=Option.bind_eq_some_iff.1 h;obtain ⟨gs,h4,rfl⟩:=Option.map_eq_some_iff.1 h2;obtain ⟨k1,k2⟩:=OkL_cons.1 hu;have hf:=form_fm hps h3 a k1 (fun y hy=>hv y (by rw [flatL_cons];exact List.mem_append_left _ hy)) f h1;obtain ⟨hg,hl⟩:=formL_fm hps h3 us k2 (fun y hy=>hv y (by rw [flatL_cons];exact List.mem_append_right _ hy)) gs h4;exact ⟨fun q hq=>(List.mem_cons.1 hq).elim (fun e=>e ▸ hf) (fun h=>hg q h),by simp [hl]⟩
end
def maxL (t:List Int):Int:=match t with
 | []=>0
 | x :: xs=>xs.foldl (fun a b=>if a < b then b else a) x
theorem maxL_snoc {t:List Int} {y:Int} (h:t≠[]):maxL (t++[y])=if maxL t < y then y else maxL t:=by
 cases t with
 | nil=>exact absurd rfl h
 | cons x xs=>
  show List.foldl _ x (xs++[y])=_;rw [List.foldl_append];rfl
theorem maxL_gt {t:List Int} {m:Int} (h:t≠[]):m < maxL t↔∃ x∈t,m < x:=by
 cases t with
 | nil=>exact absurd rfl h
 | cons x xs=>
  have:∀ (l:List Int) (a:Int),m < l.foldl (fun a b=>if a < b then b else a) a↔m < a∨∃ x∈l,m < x:=by
   intro l
   induction l with
   | nil=>intro a;simp
   | cons b l ih=>
    intro a;rw [List.foldl_cons,ih];by_cases hb:a < b
    .rw [if_pos hb];simp only [List.mem_cons,exists_eq_or_imp];constructor
     .rintro (h1 | h1)
      .exact .inr (.inl h1)
      .exact .inr (.inr h1)
     .rintro (h1 | h1 | h1)
      .exact .inl (by omega)
      .exact .inl h1
      .exact .inr h1
    .rw [if_neg hb];simp only [List.mem_cons,exists_eq_or_imp];constructor
     .rintro (h1 | h1)
      .exact .inl h1
      .exact .inr (.inr h1)
     .rintro (h1 | h1 | h1)
      .exact .inl h1
      .exact .inl (by omega)
      .exact .inr h1
  show m < xs.foldl _ x↔_;rw [this];simp
theorem big_max {f:Pl} (h:f.cf≠[]):Big f↔1000000000000 < f.c∨1000000000000 < maxL f.cf:=by unfold Big;rw [maxL_gt h]
theorem big_nil {f:Pl} (h:f.cf=[]):Big f↔1000000000000 < f.c:=by unfold Big;rw [h];simp
def nth (xs:List Int) (k:Nat):Int:=xs.getD k 0
def Most (a b:Pl):Prop:=∀ (j:Nat) (x:Int),a.cf[j]?=some x→x≤nth b.cf j
noncomputable def most (a b:Pl):Bool:=@decide (Most a b) (Classical.propDecidable _)
theorem most_f {a b:Pl} {j:Nat} {x:Int} (hx:a.cf[j]?=some x) (h:nth b.cf j < x):most a b=false:=by
 simp only [most,decide_eq_false_iff_not];exact fun H=>by have:=H j x hx;omega
theorem most_t {a b:Pl} (h:∀ (j:Nat) (x:Int),j < a.cf.length→a.cf[j]?=some x→x≤nth b.cf j):most a b=true:=by
 simp only [most,decide_eq_true_eq];exact fun j x hx=>h j x (List.getElem?_eq_some_iff.1 hx).1 hx
open Go.RowKit
structure PG (w1 wr:World) (q:Nat) (x:Int) (A:Option Addr) (cA:Nat) (xs:List Int):Prop where
 c0:wr.cell? ⟨q,0,none⟩=some (.int .i64 x)
 c1:wr.cell? ⟨q,1,none⟩=some (.slice A xs.length cA)
 fr:∀ j,wr.frozen? ⟨q,j,none⟩=false
 oA:OwI wr w1.heap.size A xs.length cA xs
 ne:∀ b o s,A=some ⟨b,o,s⟩→b≠q
 ge:w1.heap.size≤q
 ex:Ext w1 wr
section
variable {w1 wr wx:World} {x y:Int} {A:Option Addr} {q cA g cap:Nat} {xs:List Int} {o:Obj}
theorem PG.lt (h:PG w1 wr q x A cA xs):q < wr.heap.size:=World.block_lt_of_cell? wr _ h.c0
theorem PG.ext (h:PG w1 wr q x A cA xs) (k:Ext wr wx):PG w1 wx q x A cA xs:=
 ⟨Ext.keep k h.c0,Ext.keep k h.c1,fun j=>(Below.frozen (p:=⟨q,j,none⟩) k h.lt).trans (h.fr j),h.oA.ext k,h.ne,h.ge,h.ex.trans k⟩
theorem PG.setE {o s} (h:PG w1 wr q x (some ⟨g,o,s⟩) cA xs) (k:Nat) (y:Int):PG w1 (wr.setCell ⟨g,k,none⟩ (.int .i64 y)) q x (some ⟨g,0,none⟩) cA (xs.set k y):=by
 have hb:=h.oA.bd _ _ _ rfl;have hA:(some ⟨g,o,s⟩:Option Addr)=some ⟨g,0,none⟩:=by
  rcases h.oA.form with ⟨h0,_⟩ | ⟨g',hA',_⟩
  .cases h0
  .cases hA';rfl
 rw [hA] at h;have hne:=h.ne _ _ _ rfl;refine ⟨?_,?_,fun j=>by rw [World.frozen?_setCell];exact h.fr j,?_,h.ne,h.ge,h.ex.set (by show _≤g;omega) _⟩
 .rw [World.cell?_setCell_other _ _ _ _ (by first | (simp;done) | (simp;omega))];exact h.c0
 .rw [World.cell?_setCell_other _ _ _ _ (by first | (simp;done) | (simp;omega)),List.length_set];exact h.c1
 .rw [List.length_set];exact h.oA.set k y
theorem PG.far (h:PG w1 wr q x A cA xs) (hg:(wr.alloc o).grownBy wx (Value.slice A xs.length cA).ownBlock) :
 (∀ j,wx.cell? ⟨q,j,none⟩=wr.cell? ⟨q,j,none⟩)∧∀ j,wx.frozen? ⟨q,j,none⟩=false:=by
 have hlt1:=h.lt;have hsz:wr.heap.size < (wr.alloc o).heap.size:=by simp [go_sem]
 have hk3:wx.heap[q]?=wr.heap[q]?:=(hg.block _ (by omega) (fun e=>by
  cases A with
  | none=>cases e
  | some p=>obtain ⟨b',o',s'⟩:=p;cases e;exact h.ne _ _ _ rfl rfl)).trans ((Ext.alloc (Ext.refl wr) o).block _ hlt1)
 exact ⟨fun j=>World.cell?_of_block hk3,fun j=>(World.frozen?_of_block hk3).trans (h.fr j)⟩
theorem PG.grown (h:PG w1 wr q x A cA xs) (hg:(wr.alloc o).grownBy wx (Value.slice A xs.length cA).ownBlock):Ext w1 wx:=
 Ext.grown (h.ex.alloc o) hg (fun k hk=>by have:=h.oA.ob2 k hk;omega)
theorem PG.push (h:PG w1 wr q x A cA xs) (hn:xs.length+1≤4194304)
 (hown:wx.ownsRow w1.heap.size 2 1 (.slice (some ⟨g,0,none⟩) (xs.length+1) cap) (xs.length+1) (xs.map (Value.int .i64)++[.int .i64 y]))
 (hg:(wr.alloc o).grownBy wx (Value.slice A xs.length cA).ownBlock) (hat:(Value.slice A xs.length cA).ownBlock=some g∨g=(wr.alloc o).heap.size) (hlt:g < wx.heap.size) :
 PG w1 (wx.setCell ⟨q,1,none⟩ (.slice (some ⟨g,0,none⟩) (xs.length+1) cap)) q x (some ⟨g,0,none⟩) cap (xs++[y]):=by
 have hlt1:=h.lt;have hsz:wr.heap.size < (wr.alloc o).heap.size:=by simp [go_sem]
 have hF:=h.far hg;have hgne:g≠q:=by
  rcases hat with e | e
  .cases A with
   | none=>cases e
   | some p=>obtain ⟨b',o',s'⟩:=p;cases e;exact h.ne _ _ _ rfl
  .omega
 have hc1:wx.cell? ⟨q,1,none⟩=some (.slice A xs.length cA):=(hF.1 1).trans h.c1;refine ⟨?_,?_,fun j=>by rw [World.frozen?_setCell];exact hF.2 j,?_,fun b o s e=>by cases e;exact hgne,h.ge,(h.grown hg).set h.ge _⟩
 .rw [World.cell?_setCell_other _ _ _ _ (by simp),hF.1];exact h.c0
 .rw [List.length_append];exact World.cell?_setCell_same _ _ _ hc1
 .refine OwI.setFar ?_ _ (fun g' o' s' e=>by cases e;exact hgne);rw [List.length_append];exact ⟨hn,by simpa using hown⟩
end
theorem PG.of {w1 wr:World} {q:Nat} {x:Int} {A:Option Addr} {n cA:Nat} {xs:List Int} (hn:n=xs.length) (c0:wr.cell? ⟨q,0,none⟩=some (.int .i64 x)) (c1:wr.cell? ⟨q,1,none⟩=some (.slice A n cA))
 (fr:∀ j,wr.frozen? ⟨q,j,none⟩=false) (oA:OwI wr w1.heap.size A n cA xs) (ne:∀ b o s,A=some ⟨b,o,s⟩→b≠q) (ge:w1.heap.size≤q) (ex:Ext w1 wr):PG w1 wr q x A cA xs:=by
 subst hn;exact ⟨c0,c1,fr,oA,ne,ge,ex⟩
section
variable {w1 wr:World} {q:Nat} {x:Int} {A:Option Addr} {n cA:Nat} {xs:List Int} {u v:Value}
theorem PG.put (hn:n=xs.length) (c0:wr.cell? ⟨q,0,none⟩=some u) (c1:wr.cell? ⟨q,1,none⟩=some v)
 (fr:∀ j,wr.frozen? ⟨q,j,none⟩=false) (oA:OwI wr w1.heap.size A n cA xs) (ne:∀ b o s,A=some ⟨b,o,s⟩→b≠q) (ge:w1.heap.size≤q) (ex:Ext w1 wr) :
 PG w1 ((wr.setCell ⟨q,0,none⟩ (.int .i64 x)).setCell ⟨q,1,none⟩ (.slice A n cA)) q x A cA xs:=by
 refine PG.of hn ?_ ?_ (fun j=>by rw [World.frozen?_setCell,World.frozen?_setCell];exact fr j) ((oA.setFar _ fun g o s e=>ne g o s e).setFar _ fun g o s e=>ne g o s e) ne ge ((ex.set ge _).set ge _)
 .rw [World.cell?_setCell_other _ _ _ _ (by simp)];exact World.cell?_setCell_same _ _ _ c0
 .exact World.cell?_setCell_same _ _ _ (by rw [World.cell?_setCell_other _ _ _ _ (by simp)];exact c1)
end
theorem addL_snoc {al bs:List Int} {m b:Int} {j:Nat} (hb:bs[j]?=some b) {ys:List Int} (hy:ys=addL al (bs.take j) m) :
 addL al (bs.take (j+1)) m=if j < ys.length then ys.set j (ys.getD j 0+m * b) else (ys++[0]).set j (0+m * b):=by
 subst hy;have hjb:j < bs.length:=(List.getElem?_eq_some_iff.1 hb).1;have hl:(addL al (bs.take j) m).length=max al.length j:=by rw [addL_len,List.length_take,Nat.min_eq_left (by omega)]
 have hl1:(addL al (bs.take (j+1)) m).length=max al.length (j+1):=by rw [addL_len,List.length_take,Nat.min_eq_left (by omega)]
 have htk:∀ i t,(bs.take t).getD i 0=if i < t then bs.getD i 0 else 0:=by
  intro i t;rw [List.getD_eq_getElem?_getD,List.getElem?_take];split
  .rw [List.getD_eq_getElem?_getD]
  .rfl
 have hbd:bs.getD j 0=b:=by rw [List.getD_eq_getElem?_getD,hb];rfl
 by_cases hlt:j < (addL al (bs.take j) m).length
 .rw [if_pos hlt];refine list_eq_getD (by rw [List.length_set,hl1];omega) fun i hi=>?_;rw [addL_get,htk];by_cases hij:i=j
  .subst hij;rw [List.getD_eq_getElem?_getD (l:=List.set _ _ _),List.getElem?_set_self hlt,addL_get,htk,if_pos (Nat.lt_succ_self _),if_neg (Nat.lt_irrefl _),hbd];simp
  .rw [List.getD_eq_getElem?_getD (l:=List.set _ _ _),List.getElem?_set_ne (Ne.symm hij),← List.getD_eq_getElem?_getD,addL_get,htk];by_cases h1:i < j
   .rw [if_pos h1,if_pos (by omega)]
   .rw [if_neg h1,if_neg (by omega)]
 .rw [if_neg hlt];have hj:(addL al (bs.take j) m).length=j:=by omega
  refine list_eq_getD (by rw [List.length_set,List.length_append,hl1,hj];simp;omega) fun i hi=>?_;rw [addL_get,htk];by_cases hij:i=j
  .subst hij;rw [List.getD_eq_getElem?_getD (l:=List.set _ _ _),List.getElem?_set_self (by simp;omega),if_pos (by omega),hbd,List.getD_eq_getElem?_getD,List.getElem?_eq_none (by omega)];simp
  .have hi2:i < j:=by omega
   rw [List.getD_eq_getElem?_getD (l:=List.set _ _ _),List.getElem?_set_ne (Ne.symm hij),List.getElem?_append_left (by omega),← List.getD_eq_getElem?_getD,addL_get,htk,if_pos hi2,if_pos (by omega)]
theorem getD_at' {xs:List Int} {k:Nat} {x:Int} (h:xs[k]?=some x):xs.getD k 0=x:=by rw [List.getD_eq_getElem?_getD,h];rfl
theorem wp_append_ints {P:Program} {w:World} {o:Oper} {a:Act} {K:Act→World→Prop} {Q:Exit→Act→World→Prop} (s x:Operand) (t:TypeId)
 (ho:o.op=.call { callee:=.builtin .append,args:=#[s,x],argTypes:=#[t,t] }) (i:TypeInfo) (ht:P.underlying t=some (.slice 2)) (hi:P.info? 2=some i) (hz:i.zero=some (.int .i64 0))
 (hsize:i.size=1) (hby:i.bytes=8) {D n c m d:Nat} {A B:Option Addr} {xs ys:List Int} (hs:a.eval s=.slice A n c) (h:OwI w D A n c xs) (hx:a.eval x=.slice B m d) (hb:RI w B m ys) (hnm:n+m≤4194304) (hD:D≤w.heap.size) (hnc:n≤c)
 (hK:∀ A' c' w',OwI w' D A' (n+m) c' (xs++ys)→w.grownBy w' (Value.slice A n c).ownBlock→(∀ b o s,A'=some ⟨b,o,s⟩→(Value.slice A n c).ownBlock=some b∨b=w.heap.size)→K (a.put o.dst (.slice A' (n+m) c')) w'):o.wp P a w K Q:=by
 rcases Nat.eq_zero_or_pos m with h0 | h0
 .subst h0;have hys:ys=[]:=List.length_eq_zero_iff.1 hb.len;subst hys;have hr:∀ ty,(Builtin.append_ #[t,t] ty #[.slice A n c,.slice B 0 d]).run P w=.ok (.slice A n c) w:=by
   intro ty;cases A<;>cases B<;>simp [Builtin.append_,run_underlying ht,sizeOf,typeInfo,hi,hnc,storeCells,loadCells,Builtin.lenOf,Builtin.firstCells,loadCellsFrom,storeCells]
  unfold Oper.wp execOp;simp only [ho,resolve,invoke,builtin,Sem.run_bind,Sem.run_pure,Result.andThen_ok,List.map_toArray,List.map_cons,List.map_nil,hs,hx,hr];exact hK A c w (by simpa using h) (World.grownBy.refl _ _) (fun b o s e=>by subst e;exact .inl rfl)
 .obtain ⟨b,q,rfl,hc⟩:=hb.2 h0;refine wp_append_lies w s x t ho D 2 i (.int .i64 0) 1 8 ht hi hz hsize hby rfl (by decide) _ n _ hs h.2 ⟨b,q,none⟩ m d (ys.map (Value.int .i64)) hx (by simp [hb.len]) (fun j u hu=>?_) (fun u hu=>?_) h0 (by unfold maxLen;omega) (by omega) hD _ rfl (fun g cap w' h2 h3 h4 h5=>?_)
  .rw [List.getElem?_map] at hu;obtain ⟨y,hy,rfl⟩:=Option.map_eq_some_iff.1 hu;have:(⟨b,q,none⟩:Addr).add j=⟨b,q+j,none⟩:=by unfold Addr.add;split<;>simp_all
   rw [this];exact hc j y hy
  .obtain ⟨y,_,rfl⟩:=List.mem_map.1 hu;rfl
  .exact hK _ cap w' ⟨hnm,by rw [List.map_append];exact h2⟩ h3 (fun b o s e=>by cases e;exact h4)
theorem OwI.none0 {w:World} {D:Nat} (hD:D≤w.heap.size):OwI (w.alloc (.cells #[] 2)) D (some ⟨w.heap.size,0,none⟩) 0 0 []:=
 ⟨by omega,World.ownsRow_made w #[] 0 hD (by decide) rfl⟩
theorem box_grown {w wx:World} {q:Nat} {row:Option Nat} {u v:Value} (hg:w.grownBy wx row) (hne:some q≠row) (h0:w.cell? ⟨q,0,none⟩=some u) (h1:w.cell? ⟨q,1,none⟩=some v) (hf:∀ j,w.frozen? ⟨q,j,none⟩=false) :
 wx.cell? ⟨q,0,none⟩=some u∧wx.cell? ⟨q,1,none⟩=some v∧∀ j,wx.frozen? ⟨q,j,none⟩=false:=
 ⟨hg.cell h0 hne,hg.cell h1 hne,fun j=>(hg.frozen_far ⟨q,j,none⟩ (by have:=World.block_lt_of_cell? w _ h0;exact this) hne).trans (hf j)⟩
theorem wp_append_new {P:Program} {w:World} {o:Oper} {a:Act} {K:Act→World→Prop} {Q:Exit→Act→World→Prop} (s x:Operand) (t:TypeId)
 (ho:o.op=.call { callee:=.builtin .append,args:=#[s,x],argTypes:=#[t,t] }) (i:TypeInfo) (ht:P.underlying t=some (.slice 2)) (hi:P.info? 2=some i) (hz:i.zero=some (.int .i64 0))
 (hsize:i.size=1) (hby:i.bytes=8) {D m d g:Nat} {B:Option Addr} {ys:List Int} (hs:a.eval s=.slice (some ⟨g,0,none⟩) 0 0) (h:OwI w D (some ⟨g,0,none⟩) 0 0 []) (hx:a.eval x=.slice B m d) (hb:RI w B m ys) (hD:D≤w.heap.size)
 (hK:∀ A' c' w',OwI w' D A' m c' ys→w.grownBy w' (some g)→(∀ b o s,A'=some ⟨b,o,s⟩→b=g∨b=w.heap.size)→K (a.put o.dst (.slice A' m c')) w'):o.wp P a w K Q:=by
 refine wp_append_ints s x t ho i ht hi hz hsize hby hs h hx hb (by have:=hb.le;omega) hD (Nat.le_refl _) fun A' c' w' h1 h2 h3=>?_;rw [Nat.zero_add] at h1 ⊢;exact hK A' c' w' (by simpa using h1) h2 fun b o s e=>(h3 b o s e).imp (fun e=>by cases e;rfl) id
theorem wpList_append_new {P:Program} {w:World} {ops:Array Oper} {rest:List Oper} {o:Oper} {a:Act} {Q:Exit→Act→World→Prop} (hgd:o.guard=none) (s x:Operand) (t:TypeId)
 (ho:o.op=.call { callee:=.builtin .append,args:=#[s,x],argTypes:=#[t,t] }) (i:TypeInfo) (ht:P.underlying t=some (.slice 2)) (hi:P.info? 2=some i) (hz:i.zero=some (.int .i64 0))
 (hsize:i.size=1) (hby:i.bytes=8) {D m d g:Nat} {B:Option Addr} {ys:List Int} (hs:a.eval s=.slice (some ⟨g,0,none⟩) 0 0) (h:OwI w D (some ⟨g,0,none⟩) 0 0 []) (hx:a.eval x=.slice B m d) (hb:RI w B m ys) (hD:D≤w.heap.size)
 (hK:∀ A' c' w',OwI w' D A' m c' ys→w.grownBy w' (some g)→(∀ b o s,A'=some ⟨b,o,s⟩→b=g∨b=w.heap.size)→wpList P ops Q rest (a.put o.dst (.slice A' m c')) w'):wpList P ops Q (o :: rest) a w:=
 wpList_plain hgd fun _ hk=>wp_append_new s x t ho i ht hi hz hsize hby hs h hx hb hD fun A' c' w' h1 h2 h3=>hk _ _ (hK A' c' w' h1 h2 h3)
theorem wpList_append_ints {P:Program} {w:World} {ops:Array Oper} {rest:List Oper} {o:Oper} {a:Act} {Q:Exit→Act→World→Prop} (hgd:o.guard=none) (s x:Operand) (t:TypeId)
 (ho:o.op=.call { callee:=.builtin .append,args:=#[s,x],argTypes:=#[t,t] }) (i:TypeInfo) (ht:P.underlying t=some (.slice 2)) (hi:P.info? 2=some i) (hz:i.zero=some (.int .i64 0))
 (hsize:i.size=1) (hby:i.bytes=8) {D n c m d:Nat} {A B:Option Addr} {xs ys:List Int} (hs:a.eval s=.slice A n c) (h:OwI w D A n c xs) (hx:a.eval x=.slice B m d) (hb:RI w B m ys) (hnm:n+m≤4194304) (hD:D≤w.heap.size) (hnc:n≤c)
 (hK:∀ A' c' w',OwI w' D A' (n+m) c' (xs++ys)→w.grownBy w' (Value.slice A n c).ownBlock→(∀ b o s,A'=some ⟨b,o,s⟩→(Value.slice A n c).ownBlock=some b∨b=w.heap.size)→wpList P ops Q rest (a.put o.dst (.slice A' (n+m) c')) w'):wpList P ops Q (o :: rest) a w:=
 wpList_plain hgd fun _ hk=>wp_append_ints s x t ho i ht hi hz hsize hby hs h hx hb hnm hD hnc fun A' c' w' h1 h2 h3=>hk _ _ (hK A' c' w' h1 h2 h3)
theorem c_l1Copy {A:Option Addr} {n c:Nat} {xs:List Int} {w:World} (h0:RI w A n xs):Calls Tryz.prog 111 #[.slice A n c] w (NewI w xs):=by
 have HA:=Lib.hid h0;obtain ⟨i0,hii,hiz,his,hib⟩:=info_parts int64_info;clear h0;go_enter Tryz.func111,Tryz.ntmps111;go_wp2_with (at_builtin;go_loud (refine wpList_append_new rfl (.tmp 3) (.tmp 4) 27 rfl i0 Tryz.underlying27 hii hiz his hib (D:=w.heap.size) rfl (OwI.none0 (Nat.le_refl _)) rfl (RI.ext HA.out extX) (by go_size) ?_))
 intro A2 c2 w2 hO hg hat
 have HO:=Lib.hid hO;have hE:Ext w w2:=Ext.grown ((Ext.refl w).alloc _) hg (fun k hk=>by cases hk;exact Nat.le_refl _);clear hO hg hat
 go_wp2;go_ret;exact ⟨A2,n,c2,rfl,HO.out,hE⟩
theorem c_clone {A:Option Addr} {n c:Nat} {xs:List Int} {w:World} (h0:RI w A n xs):Calls Tryz.prog 27 #[.slice A n c] w (NewI w xs):=by
 have hn:=h0.le;cases A with
 | none=>
  have hz:n=0:=by
   rcases Nat.eq_zero_or_pos n with h | h
   .exact h
   .obtain ⟨b,o,e,_⟩:=h0.2 h;cases e
  have hx:xs=[]:=List.length_eq_zero_iff.1 (by rw [h0.len,hz]);subst hx;subst hz;have hnil:∀ w:World,(binOp .eql 27 (.slice none 0 c) (.slice none 0 0)).run Tryz.prog w=.ok (.bool true) w:=fun w=>run_eql_slice_nil w _ _ none 0 c Tryz.underlying27;go_enter Tryz.func27,Tryz.ntmps27;go_wp2;go_ret;exact ⟨none,0,0,rfl,⟨by omega,World.ownsRow_nil _ _ _ _⟩,Ext.refl _⟩
 | some p=>
  have HA:=Lib.hid h0;obtain ⟨i0,hii,hiz,his,hib⟩:=info_parts int64_info;have hnil:∀ w:World,(binOp .eql 27 (.slice (some p) n c) (.slice none 0 0)).run Tryz.prog w=.ok (.bool false) w:=fun w=>run_eql_slice_nil w _ _ (some p) n c Tryz.underlying27;clear h0;go_enter Tryz.func27,Tryz.ntmps27;go_wp2_with (at_builtin;go_loud (refine wpList_append_new rfl (.tmp 5) (.tmp 6) 27 rfl i0 Tryz.underlying27 hii hiz his hib (D:=w.heap.size) rfl (OwI.none0 (Nat.le_refl _)) rfl (RI.ext HA.out extX) (by go_size) ?_))
  intro A2 c2 w2 hO hg hat
  have HO:=Lib.hid hO;have hE:Ext w w2:=Ext.grown ((Ext.refl w).alloc _) hg (fun k hk=>by cases hk;exact Nat.le_refl _);clear hO hg hat
  go_wp2;go_ret;exact ⟨A2,n,c2,rfl,HO.out,hE⟩
theorem RI.takeU {w:World} {A:Option Addr} {n k:Nat} {xs:List Int} (h:RI w A n xs) (hk:k≤n):RI w A k (xs.take k):=by
 refine ⟨⟨by rw [List.length_take,h.len];omega,by have:=h.le;omega⟩,fun h0=>?_⟩;obtain ⟨b,o,hA,hc⟩:=h.2 (by omega);refine ⟨b,o,hA,fun j x hx=>hc j x ?_⟩;rw [List.getElem?_take] at hx;split at hx
 .exact hx
 .cases hx

