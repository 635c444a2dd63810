/- -/
import Derived.Test.YtiblbnkpjmmjaaaGreatQ10
import Derived.StillTailTactics
set_option maxRecDepth 100000
set_option maxHeartbeats 16000000
set_option linter.all false
namespace Go.Proofs.YtiblbnkpjmmjaaaGreat
def upI (a:Int):Nat→List Int
 | 0=>[]
 | n+1=>a :: upI (a+1) n
theorem upI_len (a:Int) (n:Nat):(upI a n).length=n:=by induction n generalizing a with
 | zero=>rfl
 | succ n ih=>simp [upI,ih]
theorem upI_get (n:Nat) (a:Int) (j:Nat) (h:j < n):(upI a n)[j]?=some (a+j):=by
 induction n generalizing a j with
 | zero=>omega
 | succ n ih=>
  cases j with
  | zero=>simp [upI]
  | succ j=>simp only [upI,List.getElem?_cons_succ];rw [ih _ _ (by omega)];congr 1;omega
theorem upI_mem {a x:Int} {n:Nat}:x∈upI a n↔a≤x∧x < a+n:=by
 induction n generalizing a with
 | zero=>exact ⟨fun h=>(by cases h),fun h=>(by omega)⟩
 | succ n ih=>simp only [upI,List.mem_cons,ih];omega
theorem upI_inc (a:Int) (n:Nat):(upI a n).Pairwise (· < ·):=by
 induction n generalizing a with
 | zero=>exact List.Pairwise.nil
 | succ n ih=>exact List.pairwise_cons.2 ⟨fun y hy=>by have:=upI_mem.1 hy;omega,ih _⟩
theorem inc_full {xs:List Int} {a:Int} (h:xs.Pairwise (· < ·)) (hr:∀ x∈xs,a≤x∧x < a+xs.length):xs=upI a xs.length:=by
 induction xs generalizing a with
 | nil=>rfl
 | cons x t ih=>
  rw [List.pairwise_cons] at h;have hx:=hr x (List.mem_cons_self ..);have ht:t=upI (a+1) t.length:=ih h.2 fun y hy=>by
   have h1:=h.1 y hy;have h2:=(hr y (List.mem_cons_of_mem _ hy)).2;simp only [List.length_cons] at h2;omega
  have hxa:x=a:=by
   cases t with
   | nil=>simp at hx;omega
   | cons y t=>
    have h1:=h.1 y (List.mem_cons_self ..);have h2:y=a+1:=by
     have:=congrArg (fun l=>l[0]?) ht
     simpa [upI] using this
    omega
  subst hxa;rw [List.length_cons,upI]
  congr 1
def permOk (xs:List Int):Bool:=decide (xs.Nodup∧(∀ x∈xs,0≤x∧x < xs.length)∧xs.length≤8)
theorem permOk_iff {xs:List Int}:permOk xs=true↔xs.Nodup∧(∀ x∈xs,0≤x∧x < xs.length)∧xs.length≤8:=by unfold permOk;exact decide_eq_true_iff
theorem permOk_big {xs:List Int} (h:8 < xs.length):permOk xs=false:=by
 cases hb:permOk xs with
 | false=>rfl
 | true=>have:=(permOk_iff.1 hb).2.2;omega
def permTo (xs:List Int) (k:Nat):Prop:=∀ (j:Nat) (x:Int),j < k→xs[j]?=some x→(0≤x∧x < xs.length)∧x ∉ xs.take j
theorem permTo_zero (xs:List Int):permTo xs 0:=fun j x h=>by omega
theorem permTo_succ {xs:List Int} {k:Nat} {x:Int} (h:permTo xs k) (hx:xs[k]?=some x) (h1:0≤x∧x < xs.length) (h2:x ∉ xs.take k):permTo xs (k+1):=fun j y hj hy=>by
 rcases Nat.lt_or_ge j k with h3 | h3
 .exact h j y h3 hy
 .obtain rfl:j=k:=by omega
  rw [hx] at hy;cases hy;exact ⟨h1,h2⟩
theorem nodup_of_take {xs:List Int} (h:∀ (j:Nat) (x:Int),xs[j]?=some x→x ∉ xs.take j):xs.Nodup:=by
 rw [List.nodup_iff_pairwise_ne,List.pairwise_iff_getElem];intro i j hi hj hij e;refine h j xs[j] (List.getElem?_eq_getElem hj) ?_;rw [List.mem_iff_getElem?];exact ⟨i,by rw [List.getElem?_take,if_pos hij,List.getElem?_eq_getElem hi,e]⟩
theorem take_of_nodup {xs:List Int} (h:xs.Nodup) {j:Nat} {x:Int} (hx:xs[j]?=some x):x ∉ xs.take j:=by
 rw [List.nodup_iff_pairwise_ne,List.pairwise_iff_getElem] at h;intro hm;obtain ⟨i,hi⟩:=List.mem_iff_getElem?.1 hm;rw [List.getElem?_take] at hi;split at hi
 .obtain ⟨h1,h2⟩:=List.getElem?_eq_some_iff.1 hi;obtain ⟨h3,h4⟩:=List.getElem?_eq_some_iff.1 hx;exact h i j h1 h3 (by assumption) (by rw [h2,h4])
 .cases hi
theorem permOk_all {xs:List Int} (h:permTo xs xs.length) (h8:xs.length≤8):permOk xs=true:=
 permOk_iff.2 ⟨nodup_of_take fun j x hx=>(h j x (List.getElem?_eq_some_iff.1 hx).1 hx).2,fun x hx=>by
  obtain ⟨j,hj⟩:=List.mem_iff_getElem?.1 hx;exact (h j x (List.getElem?_eq_some_iff.1 hj).1 hj).1,h8⟩
theorem permOk_out {xs:List Int} {k:Nat} {x:Int} (hx:xs[k]?=some x) (h:¬ (0≤x∧x < xs.length)):permOk xs=false:=by
 cases hb:permOk xs with
 | false=>rfl
 | true=>exact absurd ((permOk_iff.1 hb).2.1 x (List.mem_of_getElem? hx)) h
theorem permOk_twice {xs:List Int} {k:Nat} {x:Int} (hx:xs[k]?=some x) (h:x∈xs.take k):permOk xs=false:=by
 cases hb:permOk xs with
 | false=>rfl
 | true=>exact absurd h (take_of_nodup (permOk_iff.1 hb).1 hx)
theorem permOk_sorted {xs:List Int} (h8:xs.length≤8):(xs.mergeSort (fun x y=>decide (x≤y)) == upI 0 xs.length)=permOk xs:=by
 have hp:(xs.mergeSort (fun x y=>decide (x≤y))).Perm xs:=List.mergeSort_perm _ _;have hs:(xs.mergeSort (fun x y=>decide (x≤y))).Pairwise (fun a b=>decide (a≤b)=true):=List.pairwise_mergeSort (by intro a b c h1 h2;simp at *;omega) (by intro a b;simp;omega) xs;rw [Bool.eq_iff_iff,beq_iff_eq];constructor
 .intro e;rw [e] at hp;refine permOk_iff.2 ⟨hp.nodup_iff.1 ?_,fun x hx=>?_,h8⟩
  .exact (upI_inc 0 _).imp fun h=>by omega
  .have:=upI_mem.1 (hp.mem_iff.2 hx);omega
 .intro h;obtain ⟨h1,h2,_⟩:=permOk_iff.1 h;have hn:=hp.nodup_iff.2 h1;rw [List.nodup_iff_pairwise_ne] at hn;have hi:(xs.mergeSort (fun x y=>decide (x≤y))).Pairwise (· < ·):=(hs.and hn).imp fun ⟨h3,h4⟩=>by simp at h3;omega
  have:=inc_full (a:=0) hi fun x hx=>by
   have:=h2 x (hp.mem_iff.1 hx);rw [hp.length_eq];omega
  rw [hp.length_eq] at this;exact this
theorem permOk_mem {xs:List Int} (h:permOk xs=true) {x:Int}:x∈xs↔0≤x∧x < xs.length:=by
 have h8:=(permOk_iff.1 h).2.2;have e:=permOk_sorted h8;rw [h,beq_iff_eq] at e;have hp:(xs.mergeSort (fun x y=>decide (x≤y))).Perm xs:=List.mergeSort_perm _ _;rw [e] at hp;rw [← hp.mem_iff,upI_mem];omega
def fallsFrom (xs:List Int) (k:Nat):Prop:=∀ (j:Nat) (x y:Int),k≤j→xs[j]?=some x→xs[j+1]?=some y→y < x
theorem falls_last (xs:List Int) (k:Nat) (h:xs.length≤k+1):fallsFrom xs k:=fun j x y hj hx hy=>by
 have:=(List.getElem?_eq_some_iff.1 hy).1;omega
theorem falls_down {xs:List Int} {k:Nat} {x y:Int} (h:fallsFrom xs (k+1)) (hx:xs[k]?=some x) (hy:xs[k+1]?=some y) (hxy:y < x):fallsFrom xs k:=fun j a b hj ha hb=>by
 rcases Nat.lt_or_ge k j with h1 | h1
 .exact h j a b h1 ha hb
 .obtain rfl:j=k:=by omega
  rw [hx] at ha;rw [hy] at hb;cases ha;cases hb;exact hxy
def upGo (xs:List Int):Nat→Option Nat
 | 0=>none
 | k+1=>match xs[k]?,xs[k+1]? with
  | some x,some y=>if y < x then upGo xs k else some k
  | _,_=>none
def upAt (xs:List Int):Option Nat:=upGo xs (xs.length - 1)
theorem upGo_go {xs:List Int} {k:Nat} {x y:Int} (hx:xs[k]?=some x) (hy:xs[k+1]?=some y) (h:y < x):upGo xs (k+1)=upGo xs k:=by simp [upGo,hx,hy,h]
theorem upGo_stop {xs:List Int} {k:Nat} {x y:Int} (hx:xs[k]?=some x) (hy:xs[k+1]?=some y) (h:¬ y < x):upGo xs (k+1)=some k:=by simp only [upGo,hx,hy,if_neg h]
structure NextAt (xs pre:List Int) (a:Int) (T1:List Int) (b:Int) (T2:List Int):Prop where
 eq:xs=pre++a :: (T1++b :: T2)
 lt:a < b
 fall:(T1++b :: T2).Pairwise (· > ·)
 low:∀ y∈T2,y < a
def nextL (pre:List Int) (a:Int) (T1:List Int) (b:Int) (T2:List Int):List Int:=pre++b :: (T1++a :: T2).reverse
theorem fall_pair {T:List Int} (h:∀ (j:Nat) (x y:Int),T[j]?=some x→T[j+1]?=some y→y < x):T.Pairwise (· > ·):=by
 induction T with
 | nil=>exact List.Pairwise.nil
 | cons x t ih=>
  have iht:=ih fun j a b ha hb=>h (j+1) a b (by simpa using ha) (by simpa using hb);refine List.pairwise_cons.2 ⟨fun y hy=>?_,iht⟩;cases t with
  | nil=>cases hy
  | cons z t=>
   have h0:=h 0 x z rfl rfl;rcases List.mem_cons.1 hy with rfl | hy
   .exact h0
   .have:=(List.pairwise_cons.1 iht).1 y hy;omega
theorem split_at {xs:List Int} {i:Nat} {a:Int} (h:xs[i]?=some a):xs=xs.take i++a :: xs.drop (i+1):=by
 obtain ⟨hi,rfl⟩:=List.getElem?_eq_some_iff.1 h;rw [← List.drop_eq_getElem_cons hi,List.take_append_drop]
theorem nextAt_of {xs:List Int} {i k:Nat} {a b:Int} (hf:fallsFrom xs (i+1)) (hi:xs[i]?=some a) (hik:i < k) (hk:xs[k]?=some b) (hab:a < b) (hlow:∀ (j:Nat) (y:Int),k < j→xs[j]?=some y→y < a) :
 NextAt xs (xs.take i) a ((xs.take k).drop (i+1)) b (xs.drop (k+1)):=by
 have hkl:=(List.getElem?_eq_some_iff.1 hk).1;have e2:xs.drop (i+1)=(xs.take k).drop (i+1)++b :: xs.drop (k+1):=by
  conv=>lhs;rw [split_at hk]
  rw [List.drop_append_of_le_length (by rw [List.length_take];omega)]
 have e1:=split_at hi;refine ⟨by rw [← e2];exact e1,hab,?_,fun y hy=>?_⟩
 .rw [← e2];refine fall_pair fun j x y hx hy=>?_;rw [List.getElem?_drop] at hx hy;exact hf (i+1+j) x y (by omega) hx hy
 .obtain ⟨j,hj⟩:=List.mem_iff_getElem?.1 hy;rw [List.getElem?_drop] at hj;exact hlow _ y (by omega) hj
theorem nextL_set {xs:List Int} {i k:Nat} {a b:Int} (hi:xs[i]?=some a) (hik:i < k) (hk:xs[k]?=some b) :
 ((xs.set i b).set k a).take (i+1)++(((xs.set i b).set k a).drop (i+1)).reverse=nextL (xs.take i) a ((xs.take k).drop (i+1)) b (xs.drop (k+1)):=by
 have hkl:=(List.getElem?_eq_some_iff.1 hk).1;have e1:((xs.set i b).set k a).take (i+1)=xs.take i++[b]:=by
  rw [List.take_set_of_le (by omega),List.take_succ_eq_append_getElem (by simp;omega),List.take_set_of_le (by omega)];simp
 have e2:((xs.set i b).set k a).drop (i+1)=(xs.take k).drop (i+1)++a :: xs.drop (k+1):=by
  apply List.ext_getElem?;intro j;rw [List.getElem?_drop];have hlen:((xs.take k).drop (i+1)).length=k - (i+1):=by rw [List.length_drop,List.length_take];omega
  rcases Nat.lt_trichotomy (i+1+j) k with h | h | h
  .rw [List.getElem?_append_left (by omega),List.getElem?_drop,List.getElem?_take,if_pos h,List.getElem?_set_ne (by omega),List.getElem?_set_ne (by omega)]
  .rw [List.getElem?_append_right (by omega),hlen,show j - (k - (i+1))=0 by omega,h,List.getElem?_set_self (by simpa using hkl)];rfl
  .rw [List.getElem?_append_right (by omega),hlen,List.getElem?_set_ne (by omega),List.getElem?_set_ne (by omega)];obtain ⟨q,hq⟩:∃ q,j - (k - (i+1))=q+1:=⟨j - (k - (i+1)) - 1,by omega⟩;rw [hq,List.getElem?_cons_succ,List.getElem?_drop]
   congr 1;omega
 rw [e1,e2];simp [nextL]
def fillTo (base:List Int) (k:Nat):List Int:=base++((List.range k).filter fun (j:Nat)=>!base.contains (j:Int)).map fun (j:Nat)=>(j:Int)
theorem fillTo_zero (base:List Int):fillTo base 0=base:=by simp [fillTo]
theorem fillTo_in {base:List Int} {k:Nat} (h:(k:Int)∈base):fillTo base (k+1)=fillTo base k:=by
 unfold fillTo;rw [List.range_succ,List.filter_append,List.map_append];simp [h]
theorem fillTo_new {base:List Int} {k:Nat} (h:(k:Int) ∉ base):fillTo base (k+1)=fillTo base k++[(k:Int)]:=by
 unfold fillTo;rw [List.range_succ,List.filter_append,List.map_append];simp [h]
theorem fillTo_mem {base:List Int} {k:Nat}:(k:Int)∈fillTo base k↔(k:Int)∈base:=by
 unfold fillTo;rw [List.mem_append];constructor
 .rintro (h | h)
  .exact h
  .simp only [List.mem_map,List.mem_filter,List.mem_range] at h;obtain ⟨j,⟨h1,_⟩,h2⟩:=h;omega
 .exact fun h=>.inl h
theorem fill_inc (base:List Int) (k:Nat):(((List.range k).filter fun (j:Nat)=>!base.contains (j:Int)).map fun (j:Nat)=>(j:Int)).Pairwise (· < ·):=by
 rw [List.pairwise_map];exact (List.pairwise_lt_range.filter _).imp fun h=>by omega
theorem next_same {xs pre T1 T2:List Int} {a b:Int} (h:permOk xs=true) (hN:NextAt xs pre a T1 b T2):fillTo (pre++[b]) xs.length=nextL pre a T1 b T2:=by
 have hm:=fun x=>permOk_mem (x:=x) h;have hd:=(permOk_iff.1 h).1;have e:nextL pre a T1 b T2=(pre++[b])++(T1++a :: T2).reverse:=by simp [nextL]
 rw [e];unfold fillTo
 congr 1
 have hf:=hN.fall;rw [List.pairwise_append,List.pairwise_cons] at hf;obtain ⟨f1,⟨f2,f3⟩,f4⟩:=hf;rw [hN.eq] at hd;rw [List.nodup_iff_pairwise_ne,List.pairwise_append,List.pairwise_cons] at hd;obtain ⟨d1,⟨d2,d3⟩,d4⟩:=hd;rw [List.pairwise_append,List.pairwise_cons] at d3;obtain ⟨d5,⟨d6,d7⟩,d8⟩:=d3;refine inc_ext (fill_inc _ _) ?_ fun x=>?_
 .rw [List.pairwise_reverse,List.pairwise_append,List.pairwise_cons];refine ⟨f1,⟨fun y hy=>hN.low y hy,f3⟩,fun u hu v hv=>?_⟩;have h1:=f4 u hu b (List.mem_cons_self ..);have h2:=hN.lt;rcases List.mem_cons.1 hv with rfl | hv
  .simp only [gt_iff_lt] at *;omega
  .have:=hN.low v hv;simp only [gt_iff_lt] at *;omega
 .have hmx:=hm x;have e1:x∈((List.range xs.length).filter fun (j:Nat)=>!(pre++[b]).contains (j:Int)).map (fun (j:Nat)=>(j:Int))↔(0≤x∧x < xs.length)∧x ∉ pre∧x≠b:=by
   simp only [List.mem_map,List.mem_filter,List.mem_range];constructor
   .rintro ⟨j,⟨h1,h2⟩,rfl⟩;simp at h2;exact ⟨by omega,h2.1,h2.2⟩
   .rintro ⟨⟨h1,h2⟩,h3,h4⟩;refine ⟨x.toNat,⟨by omega,?_⟩,by omega⟩;rw [show ((x.toNat:Nat):Int)=x by omega];simp [h3,h4]
  rw [e1,← hmx,hN.eq,List.mem_reverse];simp only [List.mem_append,List.mem_cons];constructor
  .rintro ⟨h1,h2,h3⟩;rcases h1 with h1 | h1 | h1 | h1 | h1
   .exact absurd h1 h2
   .exact .inr (.inl h1)
   .exact .inl h1
   .exact absurd h1 h3
   .exact .inr (.inr h1)
  .rintro (h1 | rfl | h1)
   .refine ⟨.inr (.inr (.inl h1)),fun h2=>?_,fun h2=>?_⟩
    .exact d4 x h2 x (by simp [h1]) rfl
    .subst h2;exact d8 x h1 x (by simp) rfl
   .refine ⟨.inr (.inl rfl),fun h2=>?_,fun h2=>?_⟩
    .exact d4 x h2 x (by simp) rfl
    .have:=hN.lt;omega
   .refine ⟨.inr (.inr (.inr (.inr h1))),fun h2=>?_,fun h2=>?_⟩
    .exact d4 x h2 x (by simp [h1]) rfl
    .subst h2;exact d6 x h1 rfl
def leastTo (xs:List Int) (a:Int) (i k:Nat) (m:Int):Prop:=
 (m = -1∧∀ (j:Nat) (y:Int),i < j→j < k→xs[j]?=some y→¬ a < y)∨(a < m∧(∃ j,i < j∧j < k∧xs[j]?=some m)∧∀ (j:Nat) (y:Int),i < j→j < k→xs[j]?=some y→a < y→m≤y)
theorem leastTo_start (xs:List Int) (a:Int) (i:Nat):leastTo xs a i (i+1) (-1):=.inl ⟨rfl,fun j y h1 h2=>by omega⟩
theorem leastTo_skip {xs:List Int} {a m x:Int} {i k:Nat} (h:leastTo xs a i k m) (ha:0≤a) (hx:xs[k]?=some x) (hn:¬ (a < x∧(m < 0∨x < m))):leastTo xs a i (k+1) m:=by
 rcases h with ⟨rfl,h⟩ | ⟨h1,⟨j,h2,h3,h4⟩,h5⟩
 .refine .inl ⟨rfl,fun j y h1 h2 hy=>?_⟩;rcases Nat.lt_or_ge j k with h3 | h3
  .exact h j y h1 h3 hy
  .obtain rfl:j=k:=by omega
   rw [hx] at hy;cases hy;omega
 .refine .inr ⟨h1,⟨j,h2,by omega,h4⟩,fun j y g1 g2 hy hay=>?_⟩;rcases Nat.lt_or_ge j k with h6 | h6
  .exact h5 j y g1 h6 hy hay
  .obtain rfl:j=k:=by omega
   rw [hx] at hy;cases hy;omega
theorem leastTo_take {xs:List Int} {a m x:Int} {i k:Nat} (h:leastTo xs a i k m) (hik:i < k) (hx:xs[k]?=some x) (hn:a < x∧(m < 0∨x < m)) (ha:0≤a):leastTo xs a i (k+1) x:=by
 refine .inr ⟨hn.1,⟨k,hik,by omega,hx⟩,fun j y g1 g2 hy hay=>?_⟩;rcases Nat.lt_or_ge j k with h6 | h6
 .rcases h with ⟨rfl,h⟩ | ⟨h1,_,h5⟩
  .exact absurd hay (h j y g1 h6 hy)
  .have:=h5 j y g1 h6 hy hay;omega
 .obtain rfl:j=k:=by omega
  rw [hx] at hy;cases hy;omega
theorem leastTo_end {xs T1 T2 pre:List Int} {a b m:Int} (hN:NextAt xs pre a T1 b T2) (h:leastTo xs a pre.length xs.length m):m=b:=by
 have hd:xs.drop (pre.length+1)=T1++b :: T2:=by
  rw [hN.eq,List.drop_append];simp
 have hb:∃ j,pre.length < j∧j < xs.length∧xs[j]?=some b:=by
  refine ⟨pre.length+1+T1.length,by omega,by rw [hN.eq];simp;omega,?_⟩;have:(xs.drop (pre.length+1))[T1.length]?=some b:=by rw [hd];simp
  rwa [List.getElem?_drop] at this
 obtain ⟨j,h1,h2,h3⟩:=hb;rcases h with ⟨rfl,h⟩ | ⟨g1,⟨q,g2,g3,g4⟩,g5⟩
 .exact absurd hN.lt (h j b h1 h2 h3)
 .have hmb:=g5 j b h1 h2 h3 hN.lt;have hq:(xs.drop (pre.length+1))[q - (pre.length+1)]?=some m:=by
   rw [List.getElem?_drop,show pre.length+1+(q - (pre.length+1))=q by omega];exact g4
  rw [hd] at hq;have hmem:=List.mem_of_getElem? hq;have hf:=hN.fall;rw [List.pairwise_append,List.pairwise_cons] at hf;obtain ⟨f1,⟨f2,f3⟩,f4⟩:=hf;rcases List.mem_append.1 hmem with hm | hm
  .have:=f4 m hm b (List.mem_cons_self ..);simp only [gt_iff_lt] at this;omega
  .rcases List.mem_cons.1 hm with hm | hm
   .exact hm
   .have:=hN.low m hm;omega
theorem last_above {xs:List Int} {i:Nat} {a c:Int} (hc:xs[i+1]?=some c) (hac:a < c):∀ k,i+1≤k→k < xs.length→∃ j y,i < j∧j≤k∧xs[j]?=some y∧¬ y < a∧∀ (q:Nat) (z:Int),j < q→q≤k→xs[q]?=some z→z < a:=by
 intro k
 induction k with
 | zero=>intro h;omega
 | succ k ih=>
  intro h1 h2;obtain ⟨y,hy⟩:∃ y,xs[k+1]?=some y:=⟨_,List.getElem?_eq_getElem h2⟩;by_cases hya:y < a
  .have hik:i+1≤k:=by
    rcases Nat.lt_or_ge k (i+1) with h | h
    .obtain rfl:k=i:=by omega
     rw [hc] at hy;cases hy;omega
    .exact h
   obtain ⟨j,z,g1,g2,g3,g4,g5⟩:=ih hik (by omega);refine ⟨j,z,g1,by omega,g3,g4,fun q u h3 h4 hu=>?_⟩;rcases Nat.lt_or_ge k q with h5 | h5
   .obtain rfl:q=k+1:=by omega
    rw [hy] at hu;cases hu;exact hya
   .exact g5 q u h3 h5 hu
  .exact ⟨k+1,y,by omega,by omega,hy,hya,fun q u h3 h4=>by omega⟩
theorem upGo_some {xs:List Int} {k i:Nat} (hf:fallsFrom xs k) (h:upGo xs k=some i):i+1 < xs.length∧fallsFrom xs (i+1)∧∃ a c,xs[i]?=some a∧xs[i+1]?=some c∧¬ c < a:=by
 induction k with
 | zero=>cases h
 | succ k ih=>
  cases hx:xs[k]? with
  | none=>simp [upGo,hx] at h
  | some x=>
   cases hy:xs[k+1]? with
   | none=>simp [upGo,hx,hy] at h
   | some y=>
    by_cases hxy:y < x
    .rw [upGo_go hx hy hxy] at h;exact ih (falls_down hf hx hy hxy) h
    .rw [upGo_stop hx hy hxy] at h;cases h;exact ⟨(List.getElem?_eq_some_iff.1 hy).1,hf,x,y,hx,hy,hxy⟩
structure NextI (xs:List Int) (i k:Nat) (a b:Int):Prop where
 ik:i < k
 ha:xs[i]?=some a
 hb:xs[k]?=some b
 low:∀ (j:Nat) (y:Int),k < j→xs[j]?=some y→y < a
 nx:NextAt xs (xs.take i) a ((xs.take k).drop (i+1)) b (xs.drop (k+1))
theorem nextI {xs:List Int} {i:Nat} (h:permOk xs=true) (hu:upAt xs=some i):∃ k a b,NextI xs i k a b:=by
 obtain ⟨h1,hf,a,c,ha,hc,hac⟩:=upGo_some (falls_last xs _ (by omega)) hu;have hd:=(permOk_iff.1 h).1;have hne:a≠c:=fun e=>by
  subst e;refine take_of_nodup hd hc ?_;rw [List.mem_iff_getElem?];exact ⟨i,by rw [List.getElem?_take,if_pos (by omega)];exact ha⟩
 obtain ⟨k,b,g1,g2,g3,g4,g5⟩:=last_above (i:=i) hc (by omega:a < c) (xs.length - 1) (by omega) (by omega);have hab:a≠b:=fun e=>by
  subst e;refine take_of_nodup hd g3 ?_;rw [List.mem_iff_getElem?];exact ⟨i,by rw [List.getElem?_take,if_pos g1];exact ha⟩
 have hlow:∀ (j:Nat) (y:Int),k < j→xs[j]?=some y→y < a:=fun j y hj hy=>g5 j y hj (by have:=(List.getElem?_eq_some_iff.1 hy).1;omega) hy;exact ⟨k,a,b,g1,ha,g3,hlow,nextAt_of hf ha g1 g3 (by omega) hlow⟩
open Classical in
/-- The whole. -/
noncomputable def nextV (xs:List Int):List Int:=
 if permOk xs=true then match upAt xs with
  | none=>[]
  | some i=>if h:∃ l,∃ k a b,NextI xs i k a b∧l=nextL (xs.take i) a ((xs.take k).drop (i+1)) b (xs.drop (k+1)) then Classical.choose h else []
 else []
def nextB (xs:List Int):Bool:=permOk xs && (upAt xs).isSome
theorem NextI.uniq {xs:List Int} {i k k':Nat} {a a' b b':Int} (h:NextI xs i k a b) (h':NextI xs i k' a' b'):k=k'∧a=a'∧b=b':=by
 have e1:a=a':=by have:=h.ha;rw [h'.ha] at this;cases this;rfl
 subst e1;have e2:k=k':=by
  rcases Nat.lt_trichotomy k k' with g | g | g
  .have:=h.low k' b' g h'.hb;have:=h'.nx.lt;omega
  .exact g
  .have:=h'.low k b g h.hb;have:=h.nx.lt;omega
 subst e2;have e3:b=b':=by have:=h.hb;rw [h'.hb] at this;cases this;rfl
 exact ⟨rfl,rfl,e3⟩
theorem nextV_some {xs:List Int} {i k:Nat} {a b:Int} (h:permOk xs=true) (hu:upAt xs=some i) (hN:NextI xs i k a b):nextV xs=nextL (xs.take i) a ((xs.take k).drop (i+1)) b (xs.drop (k+1)):=by
 have hx:∃ l,∃ k a b,NextI xs i k a b∧l=nextL (xs.take i) a ((xs.take k).drop (i+1)) b (xs.drop (k+1)):=⟨_,k,a,b,hN,rfl⟩;unfold nextV;rw [if_pos h,hu];simp only;rw [dif_pos hx];obtain ⟨k',a',b',h1,h2⟩:=Classical.choose_spec hx;obtain ⟨rfl,rfl,rfl⟩:=hN.uniq h1;exact h2
theorem nextB_some {xs:List Int} {i:Nat} (h:permOk xs=true) (hu:upAt xs=some i):nextB xs=true:=by simp [nextB,h,hu]
theorem next_bad {xs:List Int} (h:permOk xs=false):nextV xs=[]∧nextB xs=false:=by
 refine ⟨?_,by simp [nextB,h]⟩;unfold nextV;rw [if_neg (by rw [h];decide)]
theorem next_none {xs:List Int} (h:upAt xs=none):nextV xs=[]∧nextB xs=false:=by
 refine ⟨?_,by simp [nextB,h]⟩;unfold nextV;rw [h];split<;>rfl
open Go.RowKit
theorem c_iSigOk {v:Value} {ar:List Int} {w:World} (h0:RdSig w v ar) :
 Calls Tryz.prog 35 #[v] w fun e w'=>e=.returned (.bool (sigOk ar))∧Ext w w':=by
 obtain ⟨A,n,c,rfl,ha⟩:=h0;have hn:=ha.le;have hl:=ha.len;have HA:=Lib.hid ha;have HL:=Lib.hid hl;clear ha hl;by_cases hlen:1≤n∧n≤8
 .obtain ⟨hn1,hn8⟩:=hlen;go_enter Tryz.func35,Tryz.ntmps35;go_wp2;go_loopw [18] (fun i wr=>∃ k:Nat,i=.int .i64 k∧k≤n∧Hid (∀ j x,j < k→ar[j]?=some x→0≤x∧x≤3)∧Ext w wr) (fun i _=>n - (intOf i).toNat)
  case atStart=>exact ⟨0,rfl,Nat.zero_le _,fun j x hj=>by omega,extX⟩
  case round=>
   obtain ⟨k,rfl,hk,hp,hw⟩:=hrel;by_cases hlt:k < n
   .obtain ⟨b,o,x,rfl,hx,hcx⟩:=RI.at_ (RI.ext HA.out hw) hlt;have HX:=Lib.hid hx;clear hx;go_wp2
    .go_ret;exact ⟨ret_bool (sigOk_at HX.out (by omega)).symm,hw⟩
    .go_ret;exact ⟨ret_bool (sigOk_at HX.out (by omega)).symm,hw⟩
    .refine ⟨⟨k+1,by go_num,by omega,fun j y hj hy=>?_,hw⟩,by simp [intOf];omega⟩;rcases Nat.lt_or_ge j k with h | h
     .exact hp.out j y h hy
     .obtain rfl:j=k:=by omega
      rw [HX.out] at hy;cases hy;omega
   .go_wp2;go_ret;refine ⟨ret_bool (sigOk_all ?_ ?_ fun j x hj hx=>hp.out j x ?_ hx).symm,hw⟩
    .rw [HL.out];exact hn1
    .rw [HL.out];exact hn8
    .rw [HL.out] at hj;omega
 .go_enter Tryz.func35,Tryz.ntmps35;go_wp2
  all_goals go_ret
  all_goals exact ⟨ret_bool (sigOk_len (by rw [HL.out];omega)).symm,extX⟩
def inB (n lo hi:Int):Bool:=decide (lo≤n∧n≤hi)
theorem inB_t {n lo hi:Int} (h:lo≤n∧n≤hi):inB n lo hi=true:=by simp [inB,h]
theorem inB_f {n lo hi:Int} (h:¬ (lo≤n∧n≤hi)):inB n lo hi=false:=by simp only [inB,decide_eq_false_iff_not];exact h
theorem q_l1In {n lo hi:Int} {w:World}:Calls Tryz.prog 58 #[.int .i64 n,.int .i64 lo,.int .i64 hi] w fun e w'=>e=.returned (.bool (inB n lo hi))∧w'=w:=by
 by_cases h1:lo≤n
 .by_cases h2:n≤hi
  .go_enter Tryz.func58,Tryz.ntmps58;go_wp2;go_ret;exact ⟨ret_bool (inB_t ⟨h1,by omega⟩).symm,rfl⟩
  .go_enter Tryz.func58,Tryz.ntmps58;go_wp2;go_ret;exact ⟨ret_bool (inB_f (by omega)).symm,rfl⟩
 .go_enter Tryz.func58,Tryz.ntmps58;go_wp2;go_ret;exact ⟨ret_bool (inB_f (by omega)).symm,rfl⟩
theorem q_l1In_t {n lo hi:Int} {w:World} (h:lo≤n∧n≤hi):Calls Tryz.prog 58 #[.int .i64 n,.int .i64 lo,.int .i64 hi] w fun e w'=>e=.returned (.bool true)∧w'=w:=
 q_l1In.mono fun _ _ ⟨he,hw⟩=>⟨he.trans (ret_bool (inB_t h)),hw⟩
theorem q_l1In_f {n lo hi:Int} {w:World} (h:¬ (lo≤n∧n≤hi)):Calls Tryz.prog 58 #[.int .i64 n,.int .i64 lo,.int .i64 hi] w fun e w'=>e=.returned (.bool false)∧w'=w:=
 q_l1In.mono fun _ _ ⟨he,hw⟩=>⟨he.trans (ret_bool (inB_f h)),hw⟩
theorem s_l1In_t {n lo hi:Int} {w:World} (h:lo≤n∧n≤hi):Calls Tryz.prog 58 #[.int .i64 n,.int .i64 lo,.int .i64 hi] w fun e w'=>e=.returned (.bool true)∧w=w':=
 (q_l1In_t h).mono fun _ _ ⟨he,hw⟩=>⟨he,hw.symm⟩
theorem s_l1In_f {n lo hi:Int} {w:World} (h:¬ (lo≤n∧n≤hi)):Calls Tryz.prog 58 #[.int .i64 n,.int .i64 lo,.int .i64 hi] w fun e w'=>e=.returned (.bool false)∧w=w':=
 (q_l1In_f h).mono fun _ _ ⟨he,hw⟩=>⟨he,hw.symm⟩
theorem c_l1In {n lo hi:Int} {w:World}:Calls Tryz.prog 58 #[.int .i64 n,.int .i64 lo,.int .i64 hi] w fun e w'=>e=.returned (.bool (inB n lo hi))∧Ext w w':=
 q_l1In.mono fun _ _ ⟨he,hw⟩=>⟨he,by rw [hw];exact Ext.refl _⟩
theorem c_l1In_t {n lo hi:Int} {w:World} (h:lo≤n∧n≤hi):Calls Tryz.prog 58 #[.int .i64 n,.int .i64 lo,.int .i64 hi] w fun e w'=>e=.returned (.bool true)∧Ext w w':=
 c_l1In.mono fun _ _ ⟨he,hw⟩=>⟨he.trans (ret_bool (inB_t h)),hw⟩
theorem c_l1In_f {n lo hi:Int} {w:World} (h:¬ (lo≤n∧n≤hi)):Calls Tryz.prog 58 #[.int .i64 n,.int .i64 lo,.int .i64 hi] w fun e w'=>e=.returned (.bool false)∧Ext w w':=
 c_l1In.mono fun _ _ ⟨he,hw⟩=>⟨he.trans (ret_bool (inB_f h)),hw⟩
theorem c_sSigOk {v:Value} {ar:List Int} {w:World} (h0:RdSig w v ar) :
 Calls Tryz.prog 51 #[v] w fun e w'=>e=.returned (.bool (sigOk ar))∧Ext w w':=by
 obtain ⟨A,n,c,rfl,ha⟩:=h0;have hn:=ha.le;have hl:=ha.len;have HA:=Lib.hid ha;have HL:=Lib.hid hl;clear ha hl;by_cases hlen:(1:Int)≤n∧(n:Int)≤8
 .go_enter Tryz.func51,Tryz.ntmps51;go_wp2_with (go_at_call 58;(with_reducible refine (c_l1In_t hlen).mono ?_);rintro e w1 ⟨rfl,hE1⟩;have hz1:=sz_of hE1;(try simp only [World.size_alloc,World.size_setCell,World.size_drew] at hz1);obtain ⟨hc1,hf1⟩:=bcell hE1;(try have hq1_0:w.heap.size < w1.heap.size:=by omega))
  go_loopw [3] (fun i wr=>∃ k:Nat,i=.int .i64 k∧k≤n∧Hid (∀ j x,j < k→ar[j]?=some x→0≤x∧x≤3)∧Ext w1 wr) (fun i _=>n - (intOf i).toNat)
  case atStart=>exact ⟨0,rfl,Nat.zero_le _,fun j x hj=>by omega,extX⟩
  case round=>
   obtain ⟨k,rfl,hk,hp,hE2⟩:=hrel;have hw:Ext w wr:=extX;have hbx:wr.cell? ⟨w.heap.size,0,none⟩=some (.slice A n c):=Ext.keep hE2 (by simp [go_sem,hc1,hq1_0]);by_cases hlt:k < n
   .obtain ⟨b,o,x,rfl,hx,hcx⟩:=RI.at_ (RI.ext HA.out hw) hlt;have HX:=Lib.hid hx;clear hx;by_cases hin:0≤x∧x≤3
    .go_wp2_with (go_at_call 58;(with_reducible refine (c_l1In_t hin).mono ?_);rintro e w3 ⟨rfl,hE3⟩)
     refine ⟨⟨k+1,by go_num,by omega,fun j y hj hy=>?_,extX⟩,by simp [intOf];omega⟩;rcases Nat.lt_or_ge j k with h | h
     .exact hp.out j y h hy
     .obtain rfl:j=k:=by omega
      rw [HX.out] at hy;cases hy;omega
    .go_wp2_with (go_at_call 58;(with_reducible refine (c_l1In_f hin).mono ?_);rintro e w3 ⟨rfl,hE3⟩)
     go_ret;exact ⟨ret_bool (sigOk_at HX.out hin).symm,extX⟩
   .go_wp2;go_ret;refine ⟨ret_bool (sigOk_all ?_ ?_ fun j x hj hx=>hp.out j x ?_ hx).symm,extX⟩
    .rw [HL.out];omega
    .rw [HL.out];omega
    .rw [HL.out] at hj;omega
 .go_enter Tryz.func51,Tryz.ntmps51;go_wp2_with (go_at_call 58;(with_reducible refine (c_l1In_f hlen).mono ?_);rintro e w1 ⟨rfl,hE1⟩;have hz1:=sz_of hE1;(try simp only [World.size_alloc,World.size_setCell,World.size_drew] at hz1);obtain ⟨hc1,hf1⟩:=bcell hE1;(try have hq1_0:w.heap.size < w1.heap.size:=by omega))
  go_ret;exact ⟨ret_bool (sigOk_len (by rw [HL.out];omega)).symm,extX⟩
theorem arI_neg {ar:List Int} {x:Int} (h:x < 0):arI ar x=some 0:=by unfold arI;rw [if_pos h]
theorem arI_none {ar:List Int} {x:Int} (h:(ar.length:Int)≤x):arI ar x=none:=by unfold arI;rw [if_neg (by omega),if_neg (by omega)]
theorem arI_at {ar:List Int} {x n:Int} (hx:0≤x) (h:ar[x.toNat]?=some n):arI ar x=some n.toNat:=by
 have:=(List.getElem?_eq_some_iff.1 h).1;unfold arI;rw [if_neg (by omega),if_pos (by omega),List.getD_eq_getElem?_getD,h];rfl
theorem c_arityAt {v:Value} {ar:List Int} {x:Int} {a:Nat} {w:World} (h0:RdSig w v ar) (hs:SigP ar) (h:arI ar x=some a) :
 Calls Tryz.prog 113 #[v,.int .i64 x] w fun e w'=>e=.returned (.int .i64 a)∧Ext w w':=by
 obtain ⟨A,n,c,rfl,ha⟩:=h0;by_cases hx:x < 0
 .rw [arI_neg hx] at h;cases h;go_enter Tryz.func113,Tryz.ntmps113;go_wp2;go_ret;exact ⟨rfl,extX⟩
 .by_cases hl:(ar.length:Int)≤x
  .rw [arI_none hl] at h;cases h
  .obtain ⟨q,rfl⟩:=Int.eq_ofNat_of_zero_le (show 0≤x by omega);have hqn:q < n:=by rw [← ha.len];omega
   obtain ⟨b,o,y,rfl,hy,hcy⟩:=RI.at_ ha hqn;rw [arI_at (by omega) (by rw [Int.toNat_natCast];exact hy)] at h;have hy2:=hs.2.2 y (List.mem_of_getElem? hy);have hyt:(y.toNat:Int)=y:=by omega
   cases h;have HY:=Lib.hid hyt;have hqi:(q:Int) < (n:Int):=by omega
   have hbl:b < w.heap.size:=World.block_lt_of_cell? w _ hcy;clear hyt hy hs hx hl;go_enter Tryz.func113,Tryz.ntmps113;go_wp2;go_ret;exact ⟨ret_int HY.out.symm,extX⟩
structure Cur (w:World) (g:Nat) (A:Option Addr) (n c:Nat) (B:Option Addr) (m d:Nat) (p:Nat):Prop where
 c0:w.cell? ⟨g,0,none⟩=some (.slice A n c)
 c1:w.cell? ⟨g,1,none⟩=some (.slice B m d)
 c2:w.cell? ⟨g,2,none⟩=some (.int .i64 p)
 fr:∀ i,w.frozen? ⟨g,i,none⟩=false
theorem Cur.ext {w w':World} {g:Nat} {A:Option Addr} {n c:Nat} {B:Option Addr} {m d p:Nat} (h:Cur w g A n c B m d p) (k:Ext w w'):Cur w' g A n c B m d p:=
 ⟨Ext.keep k h.c0,Ext.keep k h.c1,Ext.keep k h.c2,fun i=>(Below.frozen (p:=⟨g,i,none⟩) k (show g < w.heap.size from World.block_lt_of_cell? w _ h.c0)).trans (h.fr i)⟩
theorem Cur.lt {w:World} {g:Nat} {A:Option Addr} {n c:Nat} {B:Option Addr} {m d p:Nat} (h:Cur w g A n c B m d p):g < w.heap.size:=World.block_lt_of_cell? w _ h.c0
abbrev Only (w w':World) (g:Nat):Prop:=w.grownBy w' (some g)
theorem Only.refl (w:World) (g:Nat):Only w w g:=World.grownBy.refl w _
theorem Only.trans {a b c:World} {g:Nat} (h:Only a b g) (k:Only b c g):Only a c g:=
 ⟨k.os.trans h.os,k.tape.trans h.tape,k.output.trans h.output,Nat.le_trans h.size k.size,fun i hi hne=>(k.block i (Nat.lt_of_lt_of_le hi h.size) hne).trans (h.block i hi hne)⟩
theorem Only.of_ext {a b:World} (h:Ext a b) (g:Nat):Only a b g:=⟨h.os,h.tape,h.output,h.size,fun i hi _=>h.block i hi⟩
theorem Only.setCell (w:World) (g i:Nat) (v:Value):Only w (w.setCell ⟨g,i,none⟩ v) g:=
 ⟨rfl,rfl,rfl,by simp [World.setCell],fun k hk hne=>Below.heap_setCell w ⟨g,i,none⟩ v k (fun e=>hne (by rw [e]))⟩
theorem Only.ext {a w w':World} {g:Nat} (h:Only w w' g) (ha:Ext a w) (hg:a.heap.size≤g):Ext a w':=Ext.grown ha h (fun k hk=>by cases hk;exact hg)
theorem RI.only {w w':World} {g:Nat} {A:Option Addr} {n:Nat} {xs:List Int} (h:RI w A n xs) (k:Only w w' g) (hg:∀ b o s,A=some ⟨b,o,s⟩→0 < n→b≠g):RI w' A n xs:=
 ⟨h.1,fun hn=>by
  obtain ⟨b,o,hA,hc⟩:=h.2 hn;refine ⟨b,o,hA,fun j x hx=>?_⟩;have h1:=hc j x hx;exact (World.cell?_of_block (k.block b (World.block_lt_of_cell? w _ h1) (fun e=>by injection e with e;exact hg b o none hA hn e))).trans h1⟩
theorem c_next_end {g p:Nat} {A B:Option Addr} {n c m d:Nat} {w:World} (hc:Cur w g A n c B m d p) (hm:m≤4194304) (hpm:p=m) :
 Calls Tryz.prog 119 #[.pointer (some ⟨g,0,none⟩)] w fun e w'=>e=.returned (.int .i64 (-1))∧Ext w w':=by
 obtain ⟨c0,c1,c2,fr⟩:=hc;subst hpm;go_enter Tryz.func119,Tryz.ntmps119;go_wp2;go_quiet (fail)
 go_wp2;go_ret;exact ⟨rfl,extX⟩
theorem c_next_bad {g p:Nat} {A B:Option Addr} {n c m d:Nat} {ar t:List Int} {x:Int} {w:World} (hc:Cur w g A n c B m d p) (ha:RI w A n ar) (hb:RI w B m t) (hx:t[p]?=some x) (hbad:(ar.length:Int)≤x) :
 Calls Tryz.prog 119 #[.pointer (some ⟨g,0,none⟩)] w fun e w'=>e=.returned (.int .i64 (-1))∧Ext w w':=by
 obtain ⟨c0,c1,c2,fr⟩:=hc;have hpm:p < m:=by have:=(List.getElem?_eq_some_iff.1 hx).1;rw [hb.len] at this;exact this
 obtain ⟨b,o,y,rfl,hy,hcy⟩:=RI.at_ hb hpm;rw [hx] at hy;cases hy;have hd:decide ((m:Int)≤(p:Int))=false:=by simp;omega
 have hd2:decide ((n:Int)≤x)=true:=by rw [← ha.len];simpa using hbad
 have hp0:(0:Int)≤(p:Int):=by omega
 have hpi:(p:Int) < (m:Int):=by omega
 clear hx hbad ha hb;go_enter Tryz.func119,Tryz.ntmps119;go_wp2;go_quiet (fail)
 go_wp2;go_ret;exact ⟨rfl,extX⟩
theorem c_next_ok {g p a:Nat} {A B:Option Addr} {n c m d:Nat} {ar t:List Int} {x:Int} {w:World} (hc:Cur w g A n c B m d p) (ha:RI w A n ar) (hb:RI w B m t) (hs:SigP ar) (hx:t[p]?=some x) (hok:arI ar x=some a)
 (hga:∀ b o s,A=some ⟨b,o,s⟩→0 < n→b≠g) (hgb:∀ b o s,B=some ⟨b,o,s⟩→0 < m→b≠g) :
 Calls Tryz.prog 119 #[.pointer (some ⟨g,0,none⟩)] w fun e w'=>e=.returned (.int .i64 a)∧Cur w' g A n c B m d (p+1)∧Only w w' g:=by
 have HC:=Lib.hid hc;obtain ⟨c0,c1,c2,fr⟩:=hc;have hm:=hb.le;have hpm:p < m:=by have:=(List.getElem?_eq_some_iff.1 hx).1;rw [hb.len] at this;exact this
 obtain ⟨b,o,y,rfl,hy,hcy⟩:=RI.at_ hb hpm;rw [hx] at hy;cases hy;have hxn:x < (n:Int):=by
  rw [← ha.len];apply Classical.byContradiction;intro h;rw [arI_none (by omega)] at hok;cases hok
 have hd:decide ((m:Int)≤(p:Int))=false:=by simp;omega
 have hd2:decide ((n:Int)≤x)=false:=by simp;omega
 have hp0:(0:Int)≤(p:Int):=by omega
 have hpi:(p:Int) < (m:Int):=by omega
 have hbg:b≠g:=hgb b o none rfl (by omega);have HA:=Lib.hid ha;have HS:=Lib.hid hs;have HOK:=Lib.hid hok;have HGA:=Lib.hid hga;clear hx ha hb hs hok hga hgb;go_enter Tryz.func119,Tryz.ntmps119;go_wp2;go_quiet (fail)
 go_wp2_with fail;have hO1:Only w ((w.drewN nq).setCell ⟨g,2,none⟩ (.int .i64 ((p:Int)+1))) g:=Only.trans (Only.of_ext (Ext.drewN (Ext.refl _) _) g) (Only.setCell (w.drewN nq) g 2 _)
 have hC1:Cur ((w.drewN nq).setCell ⟨g,2,none⟩ (.int .i64 ((p:Int)+1))) g A n c (some ⟨b,o,none⟩) m d (p+1):=
  ⟨by rw [World.cell?_setCell_other _ _ _ _ (by simp)];exact c0,by rw [World.cell?_setCell_other _ _ _ _ (by simp)];exact c1,World.cell?_setCell_same _ _ _ c2,fun i=>by rw [World.frozen?_setCell];exact fr i⟩
 have hcy1:((w.drewN nq).setCell ⟨g,2,none⟩ (.int .i64 ((p:Int)+1))).cell? ⟨b,o+p,none⟩=some (.int .i64 x):=by rw [World.cell?_setCell_other _ _ _ _ (by simp;try (intro e;exact absurd e.symm hbg))];exact hcy
 generalize (w.drewN nq).setCell ⟨g,2,none⟩ (.int .i64 ((p:Int)+1))=W at hO1 hC1 hcy1 ⊢
 clear c0 c1 c2 fr hcy;have HC1:=Lib.hid hC1;obtain ⟨c0,c1,c2,fr⟩:=hC1;have c3:W.cell? ⟨g,2,none⟩=some (.int .i64 ((p:Int)+1)):=c2;clear c2;have hw1:IntKind.i64.wrap (p:Int)=(p:Int):=IntWalk.i64_in _ (by omega);go_still_tail 15,(by kernel_rfl)
 change wpList _ _ _ _ _ W.drew
 have hE1:Ext W W.drew:=extX;go_wp2_with (go_at_call 113;(with_reducible refine (c_arityAt (ar:=ar) (RdSig.mk (RI.ext (HA.out.only hO1 HGA.out) hE1)) HS.out HOK.out).mono ?_);rintro e w2 ⟨rfl,hE2⟩)
 go_ret;have hE3:Ext W w2:=Ext.trans hE1 hE2;exact ⟨rfl,HC1.out.ext hE3,hO1.trans (Only.of_ext hE3 g)⟩
def posAt (w:World) (g:Nat):Nat:=match w.cell? ⟨g,2,none⟩ with | some v=>(intOf v).toNat | none=>0
theorem Cur.pos {w:World} {g:Nat} {A:Option Addr} {n c:Nat} {B:Option Addr} {m d p:Nat} (h:Cur w g A n c B m d p):posAt w g=p:=by
 unfold posAt;rw [h.c2];simp [intOf]
theorem c_skip {g p0:Nat} {A B:Option Addr} {n c m d:Nat} {ar t:List Int} {w:World} (hc:Cur w g A n c B m d p0) (ha:RI w A n ar) (hb:RI w B m t) (hs:SigP ar) (hp:p0≤t.length)
 (hga:∀ b o s,A=some ⟨b,o,s⟩→0 < n→b≠g) (hgb:∀ b o s,B=some ⟨b,o,s⟩→0 < m→b≠g) :
 Calls Tryz.prog 112 #[.pointer (some ⟨g,0,none⟩)] w fun e w'=>Only w w' g∧((endI ar t p0 = -1∧e=.returned (.bool false))∨∃ q:Nat,endI ar t p0=q∧e=.returned (.bool true)∧Cur w' g A n c B m d q):=by
 have hm:=hb.le;have hl:=hb.len;have HC:=Lib.hid hc;have HA:=Lib.hid ha;have HB:=Lib.hid hb;have HS:=Lib.hid hs;have HGA:=Lib.hid hga;have HGB:=Lib.hid hgb;have HP:=Lib.hid hp;have HL:=Lib.hid hl;clear hc ha hb hs hga hgb hp hl;go_enter Tryz.func112,Tryz.ntmps112;go_wp2;go_loopw [3] (fun i wr=>∃ p nd:Nat,i=.int .i64 nd∧nd≤1+3 * p∧Hid (ScanAt (arI ar) t p0 p nd)∧Only w wr g∧Hid (Cur wr g A n c B m d p)) (fun _ wr=>m+1 - posAt wr g)
 case atStart=>exact ⟨p0,1,rfl,by omega,ScanAt.start HP.out,Only.refl _ _,HC.out⟩
 case round=>
  obtain ⟨p,nd,rfl,hnd,hsc,hO,hcur⟩:=hrel;have hpl:p≤m:=by have:=hsc.out.2.1;rw [HL.out] at this;exact this
  rcases nd with _ | nd
  .go_wp2;go_ret;exact ⟨hO,.inr ⟨p,hsc.out.done,rfl,hcur.out⟩⟩
  .have hA1:=HA.out.only hO HGA.out;have hB1:=HB.out.only hO HGB.out;have HA1:=Lib.hid hA1;have HB1:=Lib.hid hB1;clear hA1 hB1;by_cases hpm:p=m
   .have HPM:=Lib.hid hpm;clear hpm;go_wp2_with (go_at_call 119;(with_reducible refine (c_next_end hcur.out hm HPM.out).mono ?_);rintro e w2 ⟨rfl,hE2⟩)
    go_ret;exact ⟨hO.trans (Only.of_ext hE2 g),.inl ⟨hsc.out.out (by rw [HPM.out,HL.out]),rfl⟩⟩
   .have hx:t[p]?=some (t[p]'(by rw [HL.out];omega)):=List.getElem?_eq_getElem _
    generalize t[p]'(by rw [HL.out];omega)=x at hx
    have HX:=Lib.hid hx;clear hx;rcases hf:arI ar x with _ | a
    .have HF:=Lib.hid hf;clear hf;have hbad:(ar.length:Int)≤x:=by
      apply Classical.byContradiction;intro h;have hf:=HF.out;unfold arI at hf;by_cases h0:x < 0
      .rw [if_pos h0] at hf;cases hf
      .rw [if_neg h0,if_pos (by omega)] at hf;cases hf
     have HBD:=Lib.hid hbad;clear hbad;go_wp2_with (go_at_call 119;(with_reducible refine (c_next_bad hcur.out HA1.out HB1.out HX.out HBD.out).mono ?_);rintro e w2 ⟨rfl,hE2⟩)
     go_ret;exact ⟨hO.trans (Only.of_ext hE2 g),.inl ⟨hsc.out.bad HX.out HF.out,rfl⟩⟩
    .have ha3:=arI_le HS.out hf;have HF:=Lib.hid hf;clear hf;go_wp2_with (go_at_call 119;(with_reducible refine (c_next_ok hcur.out HA1.out HB1.out HS.out HX.out HF.out HGA.out HGB.out).mono ?_);rintro e w2 ⟨rfl,hC2,hO2⟩)
     go_roundw
     case rel=>exact ⟨p+1,nd+a,by go_num,by omega,hsc.out.step HX.out HF.out,hO.trans hO2,hC2⟩
     case measure=>
      rw [hC2.pos,hcur.out.pos];omega
theorem c_endAt {v0 v1:Value} {ar t:List Int} {p:Int} {w:World} (h0:RdSig w v0 ar) (h1:RdI w v1 t) (hs:SigP ar) (hp0:0≤p) (hp:p≤t.length) :
 Calls Tryz.prog 93 #[v0,v1,.int .i64 p] w fun e w'=>e=.returned (.int .i64 (endI ar t p.toNat))∧Ext w w':=by
 obtain ⟨p0,rfl⟩:=Int.eq_ofNat_of_zero_le hp0;rw [Int.toNat_natCast];have hp:p0≤t.length:=by omega
 clear hp0;obtain ⟨A,n,c,rfl,ha⟩:=h0;obtain ⟨B,m,d,rfl,hb⟩:=h1;have hbA:∀ b o s,A=some ⟨b,o,s⟩→0 < n→b≠w.heap.size+1:=by
  intro b o s e hn;obtain ⟨b',o',x,e',_,hc⟩:=RI.at_ ha hn;rw [e] at e';cases e';have:=World.block_lt_of_cell? w _ hc;have h2:b < w.heap.size:=this;omega
 have hbB:∀ b o s,B=some ⟨b,o,s⟩→0 < m→b≠w.heap.size+1:=by
  intro b o s e hn;obtain ⟨b',o',x,e',_,hc⟩:=RI.at_ hb hn;rw [e] at e';cases e';have h2:b < w.heap.size:=World.block_lt_of_cell? w _ hc;omega
 have HA:=Lib.hid ha;have HB:=Lib.hid hb;have HS:=Lib.hid hs;have HP:=Lib.hid hp;have HBA:=Lib.hid hbA;have HBB:=Lib.hid hbB;clear ha hb hs hp hbA hbB;go_enter Tryz.func93,Tryz.ntmps93;go_wp2_with fail
 (with_reducible refine (c_skip (g:=w.heap.size+1) (A:=A) (n:=n) (c:=c) (B:=B) (m:=m) (d:=d) (p0:=p0) (ar:=ar) (t:=t) ?_ (RI.ext HA.out ?_) (RI.ext HB.out ?_) HS.out HP.out HBA.out HBB.out).mono ?_)
 .exact ⟨by simp [go_sem],by simp [go_sem],by simp [go_sem],fun i=>by simp [go_sem]⟩
 .exact extX
 .exact extX
 rintro e w2 ⟨hO,h | h⟩
 .obtain ⟨he,rfl⟩:=h;have HE:=Lib.hid he;clear he;have hE2:Ext w w2:=Only.ext hO extX (by omega);go_wp2;go_ret;exact ⟨ret_int HE.out.symm,hE2⟩
 .obtain ⟨q,he,rfl,hcur⟩:=h;have HE:=Lib.hid he;clear he;have hE2:Ext w w2:=Only.ext hO extX (by omega);obtain ⟨c0,c1,c2,fr⟩:=hcur;go_wp2;go_ret;exact ⟨ret_int HE.out.symm,hE2⟩

