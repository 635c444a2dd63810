/- -/
import Derived.Test.YtdlgjhngndpgoaaGreatQ10
set_option maxRecDepth 100000
set_option maxHeartbeats 16000000
set_option linter.all false
namespace Go.Proofs.YtdlgjhngndpgoaaGreat
structure Ru where
 l:List Int
 r:List Int
structure Sy where
 ar:List Int
 rs:List Ru
def szRu (left:Int) (r:Ru):Int:=szI (szI left r.l.length) r.r.length
def szRsF (left:Int) (rs:List Ru):Int:=rs.foldl szRu left
def szRs (left:Int) (rs:List Ru):Int:=szRsF (szI left rs.length) rs
def szSy (left:Int) (s:Sy):Int:=szRs (szI left s.ar.length) s.rs
theorem szRu_bd (left:Int) (r:Ru) (h : -1≤left∧left≤1048576) : -1≤szRu left r∧szRu left r≤1048576:=szI_bd _ _ (szI_bd _ _ h)
theorem szRu_le (left:Int) (r:Ru) (h : -1≤left):szRu left r≤left:=Int.le_trans (szI_le _ _ (szI_lo _ _)) (szI_le _ _ h)
theorem szRu_m1 (r:Ru):szRu (-1) r = -1:=by unfold szRu;rw [szI_m1 (left:=-1) (by omega),szI_m1 (by omega)]
theorem szRsF_m1 (rs:List Ru):szRsF (-1) rs = -1:=by
 induction rs with
 | nil=>rfl
 | cons r rs ih=>show szRsF (szRu (-1) r) rs = -1;rw [szRu_m1];exact ih
theorem szRsF_bd (left:Int) (rs:List Ru) (h : -1≤left∧left≤1048576) : -1≤szRsF left rs∧szRsF left rs≤left:=by
 induction rs generalizing left with
 | nil=>exact ⟨h.1,Int.le_refl _⟩
 | cons p ps ih=>
  have h1:=szRu_bd left p h;have h2:=szRu_le left p h.1;have h3:=ih (szRu left p) h1;exact ⟨h3.1,Int.le_trans h3.2 h2⟩
theorem szRs_bd (left:Int) (rs:List Ru) (h : -1≤left∧left≤1048576) : -1≤szRs left rs∧szRs left rs≤1048576:=by
 have h1:=szI_bd left rs.length h;have h2:=szRsF_bd _ rs h1;exact ⟨h2.1,by show szRsF _ _≤_;omega⟩
theorem szSy_bd (left:Int) (s:Sy) (h : -1≤left∧left≤1048576) : -1≤szSy left s∧szSy left s≤1048576:=szRs_bd _ _ (szI_bd _ _ h)
theorem szRsF_snoc (left:Int) (rs:List Ru) (r:Ru):szRsF left (rs++[r])=szRu (szRsF left rs) r:=by simp [szRsF,List.foldl_append]
theorem szRsF_neg {left:Int} {rs:List Ru} {k:Nat} (h:szRsF left (rs.take k) = -1):szRsF left rs = -1:=by
 have e:szRsF left rs=szRsF (szRsF left (rs.take k)) (rs.drop k):=by
  unfold szRsF;rw [← List.foldl_append,List.take_append_drop]
 rw [e,h];exact szRsF_m1 _
theorem szRu_ok {left:Int} {r:Ru} (h0 : -1≤left) (h:0≤szRu left r):(r.l.length:Int)≤left∧(r.r.length:Int)≤left:=by
 have h1:=szI_nonneg (left:=szI left r.l.length) (n:=r.r.length) h;have h2:=szI_nonneg (left:=left) (n:=r.l.length) (by omega);omega
theorem szRsF_ok {left:Int} {rs:List Ru} (hl : -1≤left∧left≤1048576) (h:0≤szRsF left rs):∀ r∈rs,(r.l.length:Int)≤left∧(r.r.length:Int)≤left:=by
 induction rs generalizing left with
 | nil=>simp
 | cons p ps ih=>
  have h1:=szRu_bd left p hl;have h2:=szRsF_bd (szRu left p) ps h1;have h0:0≤szRsF (szRu left p) ps:=h;have h3:=szRu_ok (left:=left) (r:=p) hl.1 (by omega);have h4:=szRu_le left p hl.1;intro q hq;rcases List.mem_cons.1 hq with rfl | hq
  .exact h3
  .have:=ih h1 h0 q hq;omega
theorem szSy_ok {left:Int} {s:Sy} (hl : -1≤left∧left≤1048576) (h:0≤szSy left s):(s.ar.length:Int)≤left∧(s.rs.length:Int)≤left∧∀ r∈s.rs,(r.l.length:Int)≤left∧(r.r.length:Int)≤left:=by
 have h0:0≤szRsF (szI (szI left s.ar.length) s.rs.length) s.rs:=h;have h1:=szI_bd left s.ar.length hl;have h2:=szI_bd _ s.rs.length h1;have h3:=szRsF_bd _ s.rs h2;have h4:=szRsF_ok h2 h0;have h5:=szI_nonneg (left:=szI left s.ar.length) (n:=s.rs.length) (by omega);have h6:=szI_nonneg (left:=left) (n:=s.ar.length) (by omega);exact ⟨by omega,by omega,fun r hr=>by have:=h4 r hr;omega⟩
def RuleP (ar:List Int) (r:Ru):Prop:=TermP ar r.l∧TermP ar r.r∧(∀ x,r.l[0]?=some x→0≤x)∧∀ x∈r.r,x < 0→x∈r.l
noncomputable def ruleOk (ar:List Int) (r:Ru):Bool:=@decide (RuleP ar r) (Classical.propDecidable _)
theorem ruleOk_iff {ar:List Int} {r:Ru}:ruleOk ar r=true↔RuleP ar r:=by simp [ruleOk]
theorem ruleOk_f {ar:List Int} {r:Ru} (h:¬ RuleP ar r):ruleOk ar r=false:=by simp only [ruleOk,decide_eq_false_iff_not];exact h
def SysP (s:Sy):Prop:=SigP s.ar∧s.rs.length≤12∧∀ (j:Nat) (r:Ru),s.rs[j]?=some r→RuleP s.ar r
noncomputable def sysOk (s:Sy):Bool:=@decide (SysP s) (Classical.propDecidable _)
theorem sysOk_iff {s:Sy}:sysOk s=true↔SysP s:=by simp [sysOk]
theorem sysOk_f {s:Sy} (h:¬ SysP s):sysOk s=false:=by simp only [sysOk,decide_eq_false_iff_not];exact h
theorem sysOk_sig {s:Sy} (h:sigOk s.ar=false):sysOk s=false:=sysOk_f fun a=>by rw [sigOk_iff.2 a.1] at h;cases h
theorem sysOk_len {s:Sy} (h:¬ s.rs.length≤12):sysOk s=false:=sysOk_f fun a=>h a.2.1
theorem sysOk_at {s:Sy} {j:Nat} {r:Ru} (hr:s.rs[j]?=some r) (h:ruleOk s.ar r=false):sysOk s=false:=sysOk_f fun a=>by rw [ruleOk_iff.2 (a.2.2 j r hr)] at h;cases h
theorem sysOk_all {s:Sy} (h1:sigOk s.ar=true) (h2:s.rs.length≤12) (h:∀ (j:Nat) (r:Ru),j < s.rs.length→s.rs[j]?=some r→ruleOk s.ar r=true):sysOk s=true:=
 sysOk_iff.2 ⟨sigOk_iff.1 h1,h2,fun j r hr=>ruleOk_iff.1 (h j r (List.getElem?_eq_some_iff.1 hr).1 hr)⟩
theorem inc_ext {xs ys:List Int} (hx:xs.Pairwise (· < ·)) (hy:ys.Pairwise (· < ·)) (h:∀ a,a∈xs↔a∈ys):xs=ys:=by
 induction xs generalizing ys with
 | nil=>
  cases ys with
  | nil=>rfl
  | cons y ys=>exact absurd ((h y).2 (List.mem_cons_self ..)) (by simp)
 | cons x xs ih=>
  cases ys with
  | nil=>exact absurd ((h x).1 (List.mem_cons_self ..)) (by simp)
  | cons y ys=>
   rw [List.pairwise_cons] at hx hy;have e:x=y:=by
    rcases List.mem_cons.1 ((h x).1 (List.mem_cons_self ..)) with e | e
    .exact e
    .have h1:=hy.1 x e;rcases List.mem_cons.1 ((h y).2 (List.mem_cons_self ..)) with e2 | e2
     .exact e2.symm
     .have:=hx.1 y e2;omega
   subst e
   congr 1
   refine ih hx.2 hy.2 fun a=>⟨fun ha=>?_,fun ha=>?_⟩
   .rcases List.mem_cons.1 ((h a).1 (List.mem_cons_of_mem _ ha)) with e2 | e2
    .have:=hx.1 a ha;omega
    .exact e2
   .rcases List.mem_cons.1 ((h a).2 (List.mem_cons_of_mem _ ha)) with e2 | e2
    .have:=hy.1 a ha;omega
    .exact e2
def upI (a:Int):Nat→List Int
 | 0=>[]
 | n+1=>a :: upI (a+1) n
theorem upI_len (a:Int) (n:Nat):(upI a n).length=n:=by induction n generalizing a with
 | zero=>rfl
 | succ n ih=>simp [upI,ih]
theorem upI_get (n:Nat) (a:Int) (j:Nat) (h:j < n):(upI a n)[j]?=some (a+j):=by
 induction n generalizing a j with
 | zero=>omega
 | succ n ih=>
  cases j with
  | zero=>simp [upI]
  | succ j=>simp only [upI,List.getElem?_cons_succ];rw [ih _ _ (by omega)];congr 1;omega
theorem upI_mem {a x:Int} {n:Nat}:x∈upI a n↔a≤x∧x < a+n:=by
 induction n generalizing a with
 | zero=>exact ⟨fun h=>(by cases h),fun h=>(by omega)⟩
 | succ n ih=>simp only [upI,List.mem_cons,ih];omega
theorem upI_inc (a:Int) (n:Nat):(upI a n).Pairwise (· < ·):=by
 induction n generalizing a with
 | zero=>exact List.Pairwise.nil
 | succ n ih=>exact List.pairwise_cons.2 ⟨fun y hy=>by have:=upI_mem.1 hy;omega,ih _⟩
theorem inc_full {xs:List Int} {a:Int} (h:xs.Pairwise (· < ·)) (hr:∀ x∈xs,a≤x∧x < a+xs.length):xs=upI a xs.length:=by
 induction xs generalizing a with
 | nil=>rfl
 | cons x t ih=>
  rw [List.pairwise_cons] at h;have hx:=hr x (List.mem_cons_self ..);have ht:t=upI (a+1) t.length:=ih h.2 fun y hy=>by
   have h1:=h.1 y hy;have h2:=(hr y (List.mem_cons_of_mem _ hy)).2;simp only [List.length_cons] at h2;omega
  have hxa:x=a:=by
   cases t with
   | nil=>simp at hx;omega
   | cons y t=>
    have h1:=h.1 y (List.mem_cons_self ..);have h2:y=a+1:=by
     have:=congrArg (fun l=>l[0]?) ht
     simpa [upI] using this
    omega
  subst hxa;rw [List.length_cons,upI]
  congr 1
def permOk (xs:List Int):Bool:=decide (xs.Nodup∧(∀ x∈xs,0≤x∧x < xs.length)∧xs.length≤8)
theorem permOk_iff {xs:List Int}:permOk xs=true↔xs.Nodup∧(∀ x∈xs,0≤x∧x < xs.length)∧xs.length≤8:=by unfold permOk;exact decide_eq_true_iff
theorem permOk_big {xs:List Int} (h:8 < xs.length):permOk xs=false:=by
 cases hb:permOk xs with
 | false=>rfl
 | true=>have:=(permOk_iff.1 hb).2.2;omega
def permTo (xs:List Int) (k:Nat):Prop:=∀ (j:Nat) (x:Int),j < k→xs[j]?=some x→(0≤x∧x < xs.length)∧x ∉ xs.take j
theorem permTo_zero (xs:List Int):permTo xs 0:=fun j x h=>by omega
theorem permTo_succ {xs:List Int} {k:Nat} {x:Int} (h:permTo xs k) (hx:xs[k]?=some x) (h1:0≤x∧x < xs.length) (h2:x ∉ xs.take k):permTo xs (k+1):=fun j y hj hy=>by
 rcases Nat.lt_or_ge j k with h3 | h3
 .exact h j y h3 hy
 .obtain rfl:j=k:=by omega
  rw [hx] at hy;cases hy;exact ⟨h1,h2⟩
theorem nodup_of_take {xs:List Int} (h:∀ (j:Nat) (x:Int),xs[j]?=some x→x ∉ xs.take j):xs.Nodup:=by
 rw [List.nodup_iff_pairwise_ne,List.pairwise_iff_getElem];intro i j hi hj hij e;refine h j xs[j] (List.getElem?_eq_getElem hj) ?_;rw [List.mem_iff_getElem?];exact ⟨i,by rw [List.getElem?_take,if_pos hij,List.getElem?_eq_getElem hi,e]⟩
theorem take_of_nodup {xs:List Int} (h:xs.Nodup) {j:Nat} {x:Int} (hx:xs[j]?=some x):x ∉ xs.take j:=by
 rw [List.nodup_iff_pairwise_ne,List.pairwise_iff_getElem] at h;intro hm;obtain ⟨i,hi⟩:=List.mem_iff_getElem?.1 hm;rw [List.getElem?_take] at hi;split at hi
 .obtain ⟨h1,h2⟩:=List.getElem?_eq_some_iff.1 hi;obtain ⟨h3,h4⟩:=List.getElem?_eq_some_iff.1 hx;exact h i j h1 h3 (by assumption) (by rw [h2,h4])
 .cases hi
theorem permOk_all {xs:List Int} (h:permTo xs xs.length) (h8:xs.length≤8):permOk xs=true:=
 permOk_iff.2 ⟨nodup_of_take fun j x hx=>(h j x (List.getElem?_eq_some_iff.1 hx).1 hx).2,fun x hx=>by
  obtain ⟨j,hj⟩:=List.mem_iff_getElem?.1 hx;exact (h j x (List.getElem?_eq_some_iff.1 hj).1 hj).1,h8⟩
theorem permOk_out {xs:List Int} {k:Nat} {x:Int} (hx:xs[k]?=some x) (h:¬ (0≤x∧x < xs.length)):permOk xs=false:=by
 cases hb:permOk xs with
 | false=>rfl
 | true=>exact absurd ((permOk_iff.1 hb).2.1 x (List.mem_of_getElem? hx)) h
theorem permOk_twice {xs:List Int} {k:Nat} {x:Int} (hx:xs[k]?=some x) (h:x∈xs.take k):permOk xs=false:=by
 cases hb:permOk xs with
 | false=>rfl
 | true=>exact absurd h (take_of_nodup (permOk_iff.1 hb).1 hx)
theorem permOk_sorted {xs:List Int} (h8:xs.length≤8):(xs.mergeSort (fun x y=>decide (x≤y)) == upI 0 xs.length)=permOk xs:=by
 have hp:(xs.mergeSort (fun x y=>decide (x≤y))).Perm xs:=List.mergeSort_perm _ _;have hs:(xs.mergeSort (fun x y=>decide (x≤y))).Pairwise (fun a b=>decide (a≤b)=true):=List.pairwise_mergeSort (by intro a b c h1 h2;simp at *;omega) (by intro a b;simp;omega) xs;rw [Bool.eq_iff_iff,beq_iff_eq];constructor
 .intro e;rw [e] at hp;refine permOk_iff.2 ⟨hp.nodup_iff.1 ?_,fun x hx=>?_,h8⟩
  .exact (upI_inc 0 _).imp fun h=>by omega
  .have:=upI_mem.1 (hp.mem_iff.2 hx);omega
 .intro h;obtain ⟨h1,h2,_⟩:=permOk_iff.1 h;have hn:=hp.nodup_iff.2 h1;rw [List.nodup_iff_pairwise_ne] at hn;have hi:(xs.mergeSort (fun x y=>decide (x≤y))).Pairwise (· < ·):=(hs.and hn).imp fun ⟨h3,h4⟩=>by simp at h3;omega
  have:=inc_full (a:=0) hi fun x hx=>by
   have:=h2 x (hp.mem_iff.1 hx);rw [hp.length_eq];omega
  rw [hp.length_eq] at this;exact this
theorem permOk_mem {xs:List Int} (h:permOk xs=true) {x:Int}:x∈xs↔0≤x∧x < xs.length:=by
 have h8:=(permOk_iff.1 h).2.2;have e:=permOk_sorted h8;rw [h,beq_iff_eq] at e;have hp:(xs.mergeSort (fun x y=>decide (x≤y))).Perm xs:=List.mergeSort_perm _ _;rw [e] at hp;rw [← hp.mem_iff,upI_mem];omega
def fallsFrom (xs:List Int) (k:Nat):Prop:=∀ (j:Nat) (x y:Int),k≤j→xs[j]?=some x→xs[j+1]?=some y→y < x
theorem falls_last (xs:List Int) (k:Nat) (h:xs.length≤k+1):fallsFrom xs k:=fun j x y hj hx hy=>by
 have:=(List.getElem?_eq_some_iff.1 hy).1;omega
theorem falls_down {xs:List Int} {k:Nat} {x y:Int} (h:fallsFrom xs (k+1)) (hx:xs[k]?=some x) (hy:xs[k+1]?=some y) (hxy:y < x):fallsFrom xs k:=fun j a b hj ha hb=>by
 rcases Nat.lt_or_ge k j with h1 | h1
 .exact h j a b h1 ha hb
 .obtain rfl:j=k:=by omega
  rw [hx] at ha;rw [hy] at hb;cases ha;cases hb;exact hxy
def upGo (xs:List Int):Nat→Option Nat
 | 0=>none
 | k+1=>match xs[k]?,xs[k+1]? with
  | some x,some y=>if y < x then upGo xs k else some k
  | _,_=>none
def upAt (xs:List Int):Option Nat:=upGo xs (xs.length - 1)
theorem upGo_go {xs:List Int} {k:Nat} {x y:Int} (hx:xs[k]?=some x) (hy:xs[k+1]?=some y) (h:y < x):upGo xs (k+1)=upGo xs k:=by simp [upGo,hx,hy,h]
theorem upGo_stop {xs:List Int} {k:Nat} {x y:Int} (hx:xs[k]?=some x) (hy:xs[k+1]?=some y) (h:¬ y < x):upGo xs (k+1)=some k:=by simp only [upGo,hx,hy,if_neg h]
structure NextAt (xs pre:List Int) (a:Int) (T1:List Int) (b:Int) (T2:List Int):Prop where
 eq:xs=pre++a :: (T1++b :: T2)
 lt:a < b
 fall:(T1++b :: T2).Pairwise (· > ·)
 low:∀ y∈T2,y < a
def nextL (pre:List Int) (a:Int) (T1:List Int) (b:Int) (T2:List Int):List Int:=pre++b :: (T1++a :: T2).reverse
theorem fall_pair {T:List Int} (h:∀ (j:Nat) (x y:Int),T[j]?=some x→T[j+1]?=some y→y < x):T.Pairwise (· > ·):=by
 induction T with
 | nil=>exact List.Pairwise.nil
 | cons x t ih=>
  have iht:=ih fun j a b ha hb=>h (j+1) a b (by simpa using ha) (by simpa using hb);refine List.pairwise_cons.2 ⟨fun y hy=>?_,iht⟩;cases t with
  | nil=>cases hy
  | cons z t=>
   have h0:=h 0 x z rfl rfl;rcases List.mem_cons.1 hy with rfl | hy
   .exact h0
   .have:=(List.pairwise_cons.1 iht).1 y hy;omega
theorem split_at {xs:List Int} {i:Nat} {a:Int} (h:xs[i]?=some a):xs=xs.take i++a :: xs.drop (i+1):=by
 obtain ⟨hi,rfl⟩:=List.getElem?_eq_some_iff.1 h;rw [← List.drop_eq_getElem_cons hi,List.take_append_drop]
theorem nextAt_of {xs:List Int} {i k:Nat} {a b:Int} (hf:fallsFrom xs (i+1)) (hi:xs[i]?=some a) (hik:i < k) (hk:xs[k]?=some b) (hab:a < b) (hlow:∀ (j:Nat) (y:Int),k < j→xs[j]?=some y→y < a) :
 NextAt xs (xs.take i) a ((xs.take k).drop (i+1)) b (xs.drop (k+1)):=by
 have hkl:=(List.getElem?_eq_some_iff.1 hk).1;have e2:xs.drop (i+1)=(xs.take k).drop (i+1)++b :: xs.drop (k+1):=by
  conv=>lhs;rw [split_at hk]
  rw [List.drop_append_of_le_length (by rw [List.length_take];omega)]
 have e1:=split_at hi;refine ⟨by rw [← e2];exact e1,hab,?_,fun y hy=>?_⟩
 .rw [← e2];refine fall_pair fun j x y hx hy=>?_;rw [List.getElem?_drop] at hx hy;exact hf (i+1+j) x y (by omega) hx hy
 .obtain ⟨j,hj⟩:=List.mem_iff_getElem?.1 hy;rw [List.getElem?_drop] at hj;exact hlow _ y (by omega) hj
theorem nextL_set {xs:List Int} {i k:Nat} {a b:Int} (hi:xs[i]?=some a) (hik:i < k) (hk:xs[k]?=some b) :
 ((xs.set i b).set k a).take (i+1)++(((xs.set i b).set k a).drop (i+1)).reverse=nextL (xs.take i) a ((xs.take k).drop (i+1)) b (xs.drop (k+1)):=by
 have hkl:=(List.getElem?_eq_some_iff.1 hk).1;have e1:((xs.set i b).set k a).take (i+1)=xs.take i++[b]:=by
  rw [List.take_set_of_le (by omega),List.take_succ_eq_append_getElem (by simp;omega),List.take_set_of_le (by omega)];simp
 have e2:((xs.set i b).set k a).drop (i+1)=(xs.take k).drop (i+1)++a :: xs.drop (k+1):=by
  apply List.ext_getElem?;intro j;rw [List.getElem?_drop];have hlen:((xs.take k).drop (i+1)).length=k - (i+1):=by rw [List.length_drop,List.length_take];omega
  rcases Nat.lt_trichotomy (i+1+j) k with h | h | h
  .rw [List.getElem?_append_left (by omega),List.getElem?_drop,List.getElem?_take,if_pos h,List.getElem?_set_ne (by omega),List.getElem?_set_ne (by omega)]
  .rw [List.getElem?_append_right (by omega),hlen,show j - (k - (i+1))=0 by omega,h,List.getElem?_set_self (by simpa using hkl)];rfl
  .rw [List.getElem?_append_right (by omega),hlen,List.getElem?_set_ne (by omega),List.getElem?_set_ne (by omega)];obtain ⟨q,hq⟩:∃ q,j - (k - (i+1))=q+1:=⟨j - (k - (i+1)) - 1,by omega⟩;rw [hq,List.getElem?_cons_succ,List.getElem?_drop]
   congr 1;omega
 rw [e1,e2];simp [nextL]
def fillTo (base:List Int) (k:Nat):List Int:=base++((List.range k).filter fun (j:Nat)=>!base.contains (j:Int)).map fun (j:Nat)=>(j:Int)
theorem fillTo_zero (base:List Int):fillTo base 0=base:=by simp [fillTo]
theorem fillTo_in {base:List Int} {k:Nat} (h:(k:Int)∈base):fillTo base (k+1)=fillTo base k:=by
 unfold fillTo;rw [List.range_succ,List.filter_append,List.map_append];simp [h]
theorem fillTo_new {base:List Int} {k:Nat} (h:(k:Int) ∉ base):fillTo base (k+1)=fillTo base k++[(k:Int)]:=by
 unfold fillTo;rw [List.range_succ,List.filter_append,List.map_append];simp [h]
theorem fillTo_mem {base:List Int} {k:Nat}:(k:Int)∈fillTo base k↔(k:Int)∈base:=by
 unfold fillTo;rw [List.mem_append];constructor
 .rintro (h | h)
  .exact h
  .simp only [List.mem_map,List.mem_filter,List.mem_range] at h;obtain ⟨j,⟨h1,_⟩,h2⟩:=h;omega
 .exact fun h=>.inl h
theorem fill_inc (base:List Int) (k:Nat):(((List.range k).filter fun (j:Nat)=>!base.contains (j:Int)).map fun (j:Nat)=>(j:Int)).Pairwise (· < ·):=by
 rw [List.pairwise_map];exact (List.pairwise_lt_range.filter _).imp fun h=>by omega
theorem next_same {xs pre T1 T2:List Int} {a b:Int} (h:permOk xs=true) (hN:NextAt xs pre a T1 b T2):fillTo (pre++[b]) xs.length=nextL pre a T1 b T2:=by
 have hm:=fun x=>permOk_mem (x:=x) h;have hd:=(permOk_iff.1 h).1;have e:nextL pre a T1 b T2=(pre++[b])++(T1++a :: T2).reverse:=by simp [nextL]
 rw [e];unfold fillTo
 congr 1
 have hf:=hN.fall;rw [List.pairwise_append,List.pairwise_cons] at hf;obtain ⟨f1,⟨f2,f3⟩,f4⟩:=hf;rw [hN.eq] at hd;rw [List.nodup_iff_pairwise_ne,List.pairwise_append,List.pairwise_cons] at hd;obtain ⟨d1,⟨d2,d3⟩,d4⟩:=hd;rw [List.pairwise_append,List.pairwise_cons] at d3;obtain ⟨d5,⟨d6,d7⟩,d8⟩:=d3;refine inc_ext (fill_inc _ _) ?_ fun x=>?_
 .rw [List.pairwise_reverse,List.pairwise_append,List.pairwise_cons];refine ⟨f1,⟨fun y hy=>hN.low y hy,f3⟩,fun u hu v hv=>?_⟩;have h1:=f4 u hu b (List.mem_cons_self ..);have h2:=hN.lt;rcases List.mem_cons.1 hv with rfl | hv
  .simp only [gt_iff_lt] at *;omega
  .have:=hN.low v hv;simp only [gt_iff_lt] at *;omega
 .have hmx:=hm x;have e1:x∈((List.range xs.length).filter fun (j:Nat)=>!(pre++[b]).contains (j:Int)).map (fun (j:Nat)=>(j:Int))↔(0≤x∧x < xs.length)∧x ∉ pre∧x≠b:=by
   simp only [List.mem_map,List.mem_filter,List.mem_range];constructor
   .rintro ⟨j,⟨h1,h2⟩,rfl⟩;simp at h2;exact ⟨by omega,h2.1,h2.2⟩
   .rintro ⟨⟨h1,h2⟩,h3,h4⟩;refine ⟨x.toNat,⟨by omega,?_⟩,by omega⟩;rw [show ((x.toNat:Nat):Int)=x by omega];simp [h3,h4]
  rw [e1,← hmx,hN.eq,List.mem_reverse];simp only [List.mem_append,List.mem_cons];constructor
  .rintro ⟨h1,h2,h3⟩;rcases h1 with h1 | h1 | h1 | h1 | h1
   .exact absurd h1 h2
   .exact .inr (.inl h1)
   .exact .inl h1
   .exact absurd h1 h3
   .exact .inr (.inr h1)
  .rintro (h1 | rfl | h1)
   .refine ⟨.inr (.inr (.inl h1)),fun h2=>?_,fun h2=>?_⟩
    .exact d4 x h2 x (by simp [h1]) rfl
    .subst h2;exact d8 x h1 x (by simp) rfl
   .refine ⟨.inr (.inl rfl),fun h2=>?_,fun h2=>?_⟩
    .exact d4 x h2 x (by simp) rfl
    .have:=hN.lt;omega
   .refine ⟨.inr (.inr (.inr (.inr h1))),fun h2=>?_,fun h2=>?_⟩
    .exact d4 x h2 x (by simp [h1]) rfl
    .subst h2;exact d6 x h1 rfl
def leastTo (xs:List Int) (a:Int) (i k:Nat) (m:Int):Prop:=
 (m = -1∧∀ (j:Nat) (y:Int),i < j→j < k→xs[j]?=some y→¬ a < y)∨(a < m∧(∃ j,i < j∧j < k∧xs[j]?=some m)∧∀ (j:Nat) (y:Int),i < j→j < k→xs[j]?=some y→a < y→m≤y)
theorem leastTo_start (xs:List Int) (a:Int) (i:Nat):leastTo xs a i (i+1) (-1):=.inl ⟨rfl,fun j y h1 h2=>by omega⟩
theorem leastTo_skip {xs:List Int} {a m x:Int} {i k:Nat} (h:leastTo xs a i k m) (ha:0≤a) (hx:xs[k]?=some x) (hn:¬ (a < x∧(m < 0∨x < m))):leastTo xs a i (k+1) m:=by
 rcases h with ⟨rfl,h⟩ | ⟨h1,⟨j,h2,h3,h4⟩,h5⟩
 .refine .inl ⟨rfl,fun j y h1 h2 hy=>?_⟩;rcases Nat.lt_or_ge j k with h3 | h3
  .exact h j y h1 h3 hy
  .obtain rfl:j=k:=by omega
   rw [hx] at hy;cases hy;omega
 .refine .inr ⟨h1,⟨j,h2,by omega,h4⟩,fun j y g1 g2 hy hay=>?_⟩;rcases Nat.lt_or_ge j k with h6 | h6
  .exact h5 j y g1 h6 hy hay
  .obtain rfl:j=k:=by omega
   rw [hx] at hy;cases hy;omega
theorem leastTo_take {xs:List Int} {a m x:Int} {i k:Nat} (h:leastTo xs a i k m) (hik:i < k) (hx:xs[k]?=some x) (hn:a < x∧(m < 0∨x < m)) (ha:0≤a):leastTo xs a i (k+1) x:=by
 refine .inr ⟨hn.1,⟨k,hik,by omega,hx⟩,fun j y g1 g2 hy hay=>?_⟩;rcases Nat.lt_or_ge j k with h6 | h6
 .rcases h with ⟨rfl,h⟩ | ⟨h1,_,h5⟩
  .exact absurd hay (h j y g1 h6 hy)
  .have:=h5 j y g1 h6 hy hay;omega
 .obtain rfl:j=k:=by omega
  rw [hx] at hy;cases hy;omega
theorem leastTo_end {xs T1 T2 pre:List Int} {a b m:Int} (hN:NextAt xs pre a T1 b T2) (h:leastTo xs a pre.length xs.length m):m=b:=by
 have hd:xs.drop (pre.length+1)=T1++b :: T2:=by
  rw [hN.eq,List.drop_append];simp
 have hb:∃ j,pre.length < j∧j < xs.length∧xs[j]?=some b:=by
  refine ⟨pre.length+1+T1.length,by omega,by rw [hN.eq];simp;omega,?_⟩;have:(xs.drop (pre.length+1))[T1.length]?=some b:=by rw [hd];simp
  rwa [List.getElem?_drop] at this
 obtain ⟨j,h1,h2,h3⟩:=hb;rcases h with ⟨rfl,h⟩ | ⟨g1,⟨q,g2,g3,g4⟩,g5⟩
 .exact absurd hN.lt (h j b h1 h2 h3)
 .have hmb:=g5 j b h1 h2 h3 hN.lt;have hq:(xs.drop (pre.length+1))[q - (pre.length+1)]?=some m:=by
   rw [List.getElem?_drop,show pre.length+1+(q - (pre.length+1))=q by omega];exact g4
  rw [hd] at hq;have hmem:=List.mem_of_getElem? hq;have hf:=hN.fall;rw [List.pairwise_append,List.pairwise_cons] at hf;obtain ⟨f1,⟨f2,f3⟩,f4⟩:=hf;rcases List.mem_append.1 hmem with hm | hm
  .have:=f4 m hm b (List.mem_cons_self ..);simp only [gt_iff_lt] at this;omega
  .rcases List.mem_cons.1 hm with hm | hm
   .exact hm
   .have:=hN.low m hm;omega
theorem last_above {xs:List Int} {i:Nat} {a c:Int} (hc:xs[i+1]?=some c) (hac:a < c):∀ k,i+1≤k→k < xs.length→∃ j y,i < j∧j≤k∧xs[j]?=some y∧¬ y < a∧∀ (q:Nat) (z:Int),j < q→q≤k→xs[q]?=some z→z < a:=by
 intro k
 induction k with
 | zero=>intro h;omega
 | succ k ih=>
  intro h1 h2;obtain ⟨y,hy⟩:∃ y,xs[k+1]?=some y:=⟨_,List.getElem?_eq_getElem h2⟩;by_cases hya:y < a
  .have hik:i+1≤k:=by
    rcases Nat.lt_or_ge k (i+1) with h | h
    .obtain rfl:k=i:=by omega
     rw [hc] at hy;cases hy;omega
    .exact h
   obtain ⟨j,z,g1,g2,g3,g4,g5⟩:=ih hik (by omega);refine ⟨j,z,g1,by omega,g3,g4,fun q u h3 h4 hu=>?_⟩;rcases Nat.lt_or_ge k q with h5 | h5
   .obtain rfl:q=k+1:=by omega
    rw [hy] at hu;cases hu;exact hya
   .exact g5 q u h3 h5 hu
  .exact ⟨k+1,y,by omega,by omega,hy,hya,fun q u h3 h4=>by omega⟩
theorem upGo_some {xs:List Int} {k i:Nat} (hf:fallsFrom xs k) (h:upGo xs k=some i):i+1 < xs.length∧fallsFrom xs (i+1)∧∃ a c,xs[i]?=some a∧xs[i+1]?=some c∧¬ c < a:=by
 induction k with
 | zero=>cases h
 | succ k ih=>
  cases hx:xs[k]? with
  | none=>simp [upGo,hx] at h
  | some x=>
   cases hy:xs[k+1]? with
   | none=>simp [upGo,hx,hy] at h
   | some y=>
    by_cases hxy:y < x
    .rw [upGo_go hx hy hxy] at h;exact ih (falls_down hf hx hy hxy) h
    .rw [upGo_stop hx hy hxy] at h;cases h;exact ⟨(List.getElem?_eq_some_iff.1 hy).1,hf,x,y,hx,hy,hxy⟩
structure NextI (xs:List Int) (i k:Nat) (a b:Int):Prop where
 ik:i < k
 ha:xs[i]?=some a
 hb:xs[k]?=some b
 low:∀ (j:Nat) (y:Int),k < j→xs[j]?=some y→y < a
 nx:NextAt xs (xs.take i) a ((xs.take k).drop (i+1)) b (xs.drop (k+1))
theorem nextI {xs:List Int} {i:Nat} (h:permOk xs=true) (hu:upAt xs=some i):∃ k a b,NextI xs i k a b:=by
 obtain ⟨h1,hf,a,c,ha,hc,hac⟩:=upGo_some (falls_last xs _ (by omega)) hu;have hd:=(permOk_iff.1 h).1;have hne:a≠c:=fun e=>by
  subst e;refine take_of_nodup hd hc ?_;rw [List.mem_iff_getElem?];exact ⟨i,by rw [List.getElem?_take,if_pos (by omega)];exact ha⟩
 obtain ⟨k,b,g1,g2,g3,g4,g5⟩:=last_above (i:=i) hc (by omega:a < c) (xs.length - 1) (by omega) (by omega);have hab:a≠b:=fun e=>by
  subst e;refine take_of_nodup hd g3 ?_;rw [List.mem_iff_getElem?];exact ⟨i,by rw [List.getElem?_take,if_pos g1];exact ha⟩
 have hlow:∀ (j:Nat) (y:Int),k < j→xs[j]?=some y→y < a:=fun j y hj hy=>g5 j y hj (by have:=(List.getElem?_eq_some_iff.1 hy).1;omega) hy;exact ⟨k,a,b,g1,ha,g3,hlow,nextAt_of hf ha g1 g3 (by omega) hlow⟩
open Classical in
/-- The whole. -/
noncomputable def nextV (xs:List Int):List Int:=
 if permOk xs=true then match upAt xs with
  | none=>[]
  | some i=>if h:∃ l,∃ k a b,NextI xs i k a b∧l=nextL (xs.take i) a ((xs.take k).drop (i+1)) b (xs.drop (k+1)) then Classical.choose h else []
 else []
def nextB (xs:List Int):Bool:=permOk xs && (upAt xs).isSome
theorem NextI.uniq {xs:List Int} {i k k':Nat} {a a' b b':Int} (h:NextI xs i k a b) (h':NextI xs i k' a' b'):k=k'∧a=a'∧b=b':=by
 have e1:a=a':=by have:=h.ha;rw [h'.ha] at this;cases this;rfl
 subst e1;have e2:k=k':=by
  rcases Nat.lt_trichotomy k k' with g | g | g
  .have:=h.low k' b' g h'.hb;have:=h'.nx.lt;omega
  .exact g
  .have:=h'.low k b g h.hb;have:=h.nx.lt;omega
 subst e2;have e3:b=b':=by have:=h.hb;rw [h'.hb] at this;cases this;rfl
 exact ⟨rfl,rfl,e3⟩
theorem nextV_some {xs:List Int} {i k:Nat} {a b:Int} (h:permOk xs=true) (hu:upAt xs=some i) (hN:NextI xs i k a b):nextV xs=nextL (xs.take i) a ((xs.take k).drop (i+1)) b (xs.drop (k+1)):=by
 have hx:∃ l,∃ k a b,NextI xs i k a b∧l=nextL (xs.take i) a ((xs.take k).drop (i+1)) b (xs.drop (k+1)):=⟨_,k,a,b,hN,rfl⟩;unfold nextV;rw [if_pos h,hu];simp only;rw [dif_pos hx];obtain ⟨k',a',b',h1,h2⟩:=Classical.choose_spec hx;obtain ⟨rfl,rfl,rfl⟩:=hN.uniq h1;exact h2
theorem nextB_some {xs:List Int} {i:Nat} (h:permOk xs=true) (hu:upAt xs=some i):nextB xs=true:=by simp [nextB,h,hu]
theorem next_bad {xs:List Int} (h:permOk xs=false):nextV xs=[]∧nextB xs=false:=by
 refine ⟨?_,by simp [nextB,h]⟩;unfold nextV;rw [if_neg (by rw [h];decide)]
theorem next_none {xs:List Int} (h:upAt xs=none):nextV xs=[]∧nextB xs=false:=by
 refine ⟨?_,by simp [nextB,h]⟩;unfold nextV;rw [h];split<;>rfl
open Go.RowKit
theorem c_iSigOk {v:Value} {ar:List Int} {w:World} (h0:RdSig w v ar) :
 Calls Tryz.prog 40 #[v] w fun e w'=>e=.returned (.bool (sigOk ar))∧Ext w w':=by
 obtain ⟨A,n,c,rfl,ha⟩:=h0;have hn:=ha.le;have hl:=ha.len;have HA:=Lib.hid ha;have HL:=Lib.hid hl;clear ha hl;by_cases hlen:1≤n∧n≤8
 .obtain ⟨hn1,hn8⟩:=hlen;go_enter Tryz.func40,Tryz.ntmps40;go_wp2;go_loopw [18] (fun i wr=>∃ k:Nat,i=.int .i64 k∧k≤n∧Hid (∀ j x,j < k→ar[j]?=some x→0≤x∧x≤3)∧Ext w wr) (fun i _=>n - (intOf i).toNat)
  case atStart=>exact ⟨0,rfl,Nat.zero_le _,fun j x hj=>by omega,extX⟩
  case round=>
   obtain ⟨k,rfl,hk,hp,hw⟩:=hrel;by_cases hlt:k < n
   .obtain ⟨b,o,x,rfl,hx,hcx⟩:=RI.at_ (RI.ext HA.out hw) hlt;have HX:=Lib.hid hx;clear hx;go_wp2
    .go_ret;exact ⟨ret_bool (sigOk_at HX.out (by omega)).symm,hw⟩
    .go_ret;exact ⟨ret_bool (sigOk_at HX.out (by omega)).symm,hw⟩
    .refine ⟨⟨k+1,by go_num,by omega,fun j y hj hy=>?_,hw⟩,by simp [intOf];omega⟩;rcases Nat.lt_or_ge j k with h | h
     .exact hp.out j y h hy
     .obtain rfl:j=k:=by omega
      rw [HX.out] at hy;cases hy;omega
   .go_wp2;go_ret;refine ⟨ret_bool (sigOk_all ?_ ?_ fun j x hj hx=>hp.out j x ?_ hx).symm,hw⟩
    .rw [HL.out];exact hn1
    .rw [HL.out];exact hn8
    .rw [HL.out] at hj;omega
 .go_enter Tryz.func40,Tryz.ntmps40;go_wp2
  all_goals go_ret
  all_goals exact ⟨ret_bool (sigOk_len (by rw [HL.out];omega)).symm,extX⟩
def inB (n lo hi:Int):Bool:=decide (lo≤n∧n≤hi)
theorem inB_t {n lo hi:Int} (h:lo≤n∧n≤hi):inB n lo hi=true:=by simp [inB,h]
theorem inB_f {n lo hi:Int} (h:¬ (lo≤n∧n≤hi)):inB n lo hi=false:=by simp only [inB,decide_eq_false_iff_not];exact h
theorem q_l1In {n lo hi:Int} {w:World}:Calls Tryz.prog 50 #[.int .i64 n,.int .i64 lo,.int .i64 hi] w fun e w'=>e=.returned (.bool (inB n lo hi))∧w'=w:=by
 by_cases h1:lo≤n
 .by_cases h2:n≤hi
  .go_enter Tryz.func50,Tryz.ntmps50;go_wp2;go_ret;exact ⟨ret_bool (inB_t ⟨h1,by omega⟩).symm,rfl⟩
  .go_enter Tryz.func50,Tryz.ntmps50;go_wp2;go_ret;exact ⟨ret_bool (inB_f (by omega)).symm,rfl⟩
 .go_enter Tryz.func50,Tryz.ntmps50;go_wp2;go_ret;exact ⟨ret_bool (inB_f (by omega)).symm,rfl⟩
theorem q_l1In_t {n lo hi:Int} {w:World} (h:lo≤n∧n≤hi):Calls Tryz.prog 50 #[.int .i64 n,.int .i64 lo,.int .i64 hi] w fun e w'=>e=.returned (.bool true)∧w'=w:=
 q_l1In.mono fun _ _ ⟨he,hw⟩=>⟨he.trans (ret_bool (inB_t h)),hw⟩
theorem q_l1In_f {n lo hi:Int} {w:World} (h:¬ (lo≤n∧n≤hi)):Calls Tryz.prog 50 #[.int .i64 n,.int .i64 lo,.int .i64 hi] w fun e w'=>e=.returned (.bool false)∧w'=w:=
 q_l1In.mono fun _ _ ⟨he,hw⟩=>⟨he.trans (ret_bool (inB_f h)),hw⟩
theorem s_l1In_t {n lo hi:Int} {w:World} (h:lo≤n∧n≤hi):Calls Tryz.prog 50 #[.int .i64 n,.int .i64 lo,.int .i64 hi] w fun e w'=>e=.returned (.bool true)∧w=w':=
 (q_l1In_t h).mono fun _ _ ⟨he,hw⟩=>⟨he,hw.symm⟩
theorem s_l1In_f {n lo hi:Int} {w:World} (h:¬ (lo≤n∧n≤hi)):Calls Tryz.prog 50 #[.int .i64 n,.int .i64 lo,.int .i64 hi] w fun e w'=>e=.returned (.bool false)∧w=w':=
 (q_l1In_f h).mono fun _ _ ⟨he,hw⟩=>⟨he,hw.symm⟩
theorem c_l1In {n lo hi:Int} {w:World}:Calls Tryz.prog 50 #[.int .i64 n,.int .i64 lo,.int .i64 hi] w fun e w'=>e=.returned (.bool (inB n lo hi))∧Ext w w':=
 q_l1In.mono fun _ _ ⟨he,hw⟩=>⟨he,by rw [hw];exact Ext.refl _⟩
theorem c_l1In_t {n lo hi:Int} {w:World} (h:lo≤n∧n≤hi):Calls Tryz.prog 50 #[.int .i64 n,.int .i64 lo,.int .i64 hi] w fun e w'=>e=.returned (.bool true)∧Ext w w':=
 c_l1In.mono fun _ _ ⟨he,hw⟩=>⟨he.trans (ret_bool (inB_t h)),hw⟩
theorem c_l1In_f {n lo hi:Int} {w:World} (h:¬ (lo≤n∧n≤hi)):Calls Tryz.prog 50 #[.int .i64 n,.int .i64 lo,.int .i64 hi] w fun e w'=>e=.returned (.bool false)∧Ext w w':=
 c_l1In.mono fun _ _ ⟨he,hw⟩=>⟨he.trans (ret_bool (inB_f h)),hw⟩
theorem c_sSigOk {v:Value} {ar:List Int} {w:World} (h0:RdSig w v ar) :
 Calls Tryz.prog 65 #[v] w fun e w'=>e=.returned (.bool (sigOk ar))∧Ext w w':=by
 obtain ⟨A,n,c,rfl,ha⟩:=h0;have hn:=ha.le;have hl:=ha.len;have HA:=Lib.hid ha;have HL:=Lib.hid hl;clear ha hl;by_cases hlen:(1:Int)≤n∧(n:Int)≤8
 .go_enter Tryz.func65,Tryz.ntmps65;go_wp2_with (go_at_call 50;(with_reducible refine (c_l1In_t hlen).mono ?_);rintro e w1 ⟨rfl,hE1⟩;have hz1:=sz_of hE1;(try simp only [World.size_alloc,World.size_setCell,World.size_drew] at hz1);obtain ⟨hc1,hf1⟩:=bcell hE1;(try have hq1_0:w.heap.size < w1.heap.size:=by omega))
  go_loopw [3] (fun i wr=>∃ k:Nat,i=.int .i64 k∧k≤n∧Hid (∀ j x,j < k→ar[j]?=some x→0≤x∧x≤3)∧Ext w1 wr) (fun i _=>n - (intOf i).toNat)
  case atStart=>exact ⟨0,rfl,Nat.zero_le _,fun j x hj=>by omega,extX⟩
  case round=>
   obtain ⟨k,rfl,hk,hp,hE2⟩:=hrel;have hw:Ext w wr:=extX;have hbx:wr.cell? ⟨w.heap.size,0,none⟩=some (.slice A n c):=Ext.keep hE2 (by simp [go_sem,hc1,hq1_0]);by_cases hlt:k < n
   .obtain ⟨b,o,x,rfl,hx,hcx⟩:=RI.at_ (RI.ext HA.out hw) hlt;have HX:=Lib.hid hx;clear hx;by_cases hin:0≤x∧x≤3
    .go_wp2_with (go_at_call 50;(with_reducible refine (c_l1In_t hin).mono ?_);rintro e w3 ⟨rfl,hE3⟩)
     refine ⟨⟨k+1,by go_num,by omega,fun j y hj hy=>?_,extX⟩,by simp [intOf];omega⟩;rcases Nat.lt_or_ge j k with h | h
     .exact hp.out j y h hy
     .obtain rfl:j=k:=by omega
      rw [HX.out] at hy;cases hy;omega
    .go_wp2_with (go_at_call 50;(with_reducible refine (c_l1In_f hin).mono ?_);rintro e w3 ⟨rfl,hE3⟩)
     go_ret;exact ⟨ret_bool (sigOk_at HX.out hin).symm,extX⟩
   .go_wp2;go_ret;refine ⟨ret_bool (sigOk_all ?_ ?_ fun j x hj hx=>hp.out j x ?_ hx).symm,extX⟩
    .rw [HL.out];omega
    .rw [HL.out];omega
    .rw [HL.out] at hj;omega
 .go_enter Tryz.func65,Tryz.ntmps65;go_wp2_with (go_at_call 50;(with_reducible refine (c_l1In_f hlen).mono ?_);rintro e w1 ⟨rfl,hE1⟩;have hz1:=sz_of hE1;(try simp only [World.size_alloc,World.size_setCell,World.size_drew] at hz1);obtain ⟨hc1,hf1⟩:=bcell hE1;(try have hq1_0:w.heap.size < w1.heap.size:=by omega))
  go_ret;exact ⟨ret_bool (sigOk_len (by rw [HL.out];omega)).symm,extX⟩

