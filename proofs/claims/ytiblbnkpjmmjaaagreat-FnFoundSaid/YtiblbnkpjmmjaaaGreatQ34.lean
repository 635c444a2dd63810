/- -/
import Derived.Lib.SmallJoins
import Derived.Test.YtiblbnkpjmmjaaaGreatQ25
import Derived.Test.YtiblbnkpjmmjaaaGreatQ33
set_option maxRecDepth 100000
set_option maxHeartbeats 16000000
set_option linter.all false
namespace Go.Proofs.YtiblbnkpjmmjaaaGreat
def up:List Int→List Int→List Int→List Int×Bool
 | x :: xs,l :: ls,h :: hs=>match up xs ls hs with
  | (ys,true)=>(x :: ys,true)
  | (ys,false)=>if x < h then ((x+1) :: ys,true) else (l :: ys,false)
 | _,_,_=>([],false)
theorem up_cons_t {x l h:Int} {xs ls hs ys:List Int} (e:up xs ls hs=(ys,true)):up (x :: xs) (l :: ls) (h :: hs)=(x :: ys,true):=by rw [up,e]
theorem up_cons_s {x l h:Int} {xs ls hs ys:List Int} (e:up xs ls hs=(ys,false)) (hx:x < h):up (x :: xs) (l :: ls) (h :: hs)=((x+1) :: ys,true):=by rw [up,e];simp [hx]
theorem up_cons_f {x l h:Int} {xs ls hs ys:List Int} (e:up xs ls hs=(ys,false)) (hx:¬ x < h):up (x :: xs) (l :: ls) (h :: hs)=(l :: ys,false):=by rw [up,e];simp [hx]
theorem up_at:∀ {k:Nat} {xs ls hs:List Int} {x h:Int},xs.length=ls.length→hs.length=ls.length→xs[k]?=some x→hs[k]?=some h→x < h→up (xs.drop (k+1)) (ls.drop (k+1)) (hs.drop (k+1))=(ls.drop (k+1),false)→up xs ls hs=(xs.take k++(x+1) :: ls.drop (k+1),true)
 | 0,x0 :: xs,l :: ls,h0 :: hs,x,h,_,_,hx,hh,hlt,e=>by
  simp at hx hh;subst hx hh;simp at e;rw [up_cons_s e hlt];simp
 | k+1,x0 :: xs,l :: ls,h0 :: hs,x,h,h1,h2,hx,hh,hlt,e=>by
  simp at h1 h2 hx hh;simp only [List.drop_succ_cons] at e;rw [up_cons_t (up_at h1 h2 hx hh hlt e)];simp
 | 0,[],_,_,_,_,_,_,hx,_,_,_=>by simp at hx
 | k+1,[],_,_,_,_,_,_,hx,_,_,_=>by simp at hx
 | 0,_ :: _,[],_,_,_,h1,_,_,_,_,_=>by simp at h1
 | k+1,_ :: _,[],_,_,_,h1,_,_,_,_,_=>by simp at h1
 | 0,_ :: _,_ :: _,[],_,_,_,h2,_,_,_,_=>by simp at h2
 | k+1,_ :: _,_ :: _,[],_,_,_,h2,_,_,_,_=>by simp at h2
theorem up_back {k:Nat} {xs ls hs:List Int} {x l h:Int} (hx:xs[k]?=some x) (hl:ls[k]?=some l) (hh:hs[k]?=some h) (hlt:¬ x < h) (e:up (xs.drop (k+1)) (ls.drop (k+1)) (hs.drop (k+1))=(ls.drop (k+1),false)) :
 up (xs.drop k) (ls.drop k) (hs.drop k)=(ls.drop k,false):=by
 obtain ⟨a1,b1⟩:=List.getElem?_eq_some_iff.1 hx;obtain ⟨a2,b2⟩:=List.getElem?_eq_some_iff.1 hl;obtain ⟨a3,b3⟩:=List.getElem?_eq_some_iff.1 hh;rw [List.drop_eq_getElem_cons a1,List.drop_eq_getElem_cons a2,List.drop_eq_getElem_cons a3,b1,b2,b3,up_cons_f e hlt]
def Btw:List Int→List Int→List Int→Prop
 | x :: xs,l :: ls,h :: hs=>(l≤x∧x≤h)∧Btw xs ls hs
 | [],[],[]=>True
 | _,_,_=>False
theorem Btw.len:∀ {xs ls hs:List Int},Btw xs ls hs→xs.length=ls.length∧hs.length=ls.length
 | [],[],[],_=>⟨rfl,rfl⟩
 | x :: xs,l :: ls,h :: hs,hb=>by have:=Btw.len hb.2;simp;omega
theorem Btw.at_:∀ {xs ls hs:List Int} {k:Nat} {x:Int},Btw xs ls hs→xs[k]?=some x→∃ l h,ls[k]?=some l∧hs[k]?=some h∧l≤x∧x≤h
 | x0 :: xs,l :: ls,h :: hs,0,x,hb,hx=>by simp at hx;subst hx;exact ⟨l,h,rfl,rfl,hb.1.1,hb.1.2⟩
 | x0 :: xs,l :: ls,h :: hs,k+1,x,hb,hx=>by
  obtain ⟨l',h',a,b,c⟩:=Btw.at_ hb.2 (by simpa using hx);exact ⟨l',h',by simpa using a,by simpa using b,c⟩
 | [],_,_,k,x,_,hx=>by simp at hx
theorem Btw.of:∀ {xs ls hs:List Int},xs.length=ls.length→hs.length=ls.length→(∀ (k:Nat) (x l h:Int),xs[k]?=some x→ls[k]?=some l→hs[k]?=some h→l≤x∧x≤h)→Btw xs ls hs
 | [],[],[],_,_,_=>trivial
 | x :: xs,l :: ls,h :: hs,h1,h2,hb=>⟨hb 0 x l h rfl rfl rfl,Btw.of (by simpa using h1) (by simpa using h2) fun k x' l' h' a b c=>hb (k+1) x' l' h' (by simpa using a) (by simpa using b) (by simpa using c)⟩
 | [],_ :: _,_,h1,_,_=>by simp at h1
 | _ :: _,[],_,h1,_,_=>by simp at h1
 | [],[],_ :: _,_,h2,_=>by simp at h2
 | _ :: _,_ :: _,[],_,h2,_=>by simp at h2
def cnt:List Int→List Int→Nat
 | l :: ls,h :: hs=>(h - l+1).toNat * cnt ls hs
 | _,_=>1
def rkU:List Int→List Int→List Int→Nat
 | x :: xs,l :: ls,_ :: hs=>(x - l).toNat * cnt ls hs+rkU xs ls hs
 | _,_,_=>0
theorem rkU_lt:∀ {xs ls hs:List Int},Btw xs ls hs→rkU xs ls hs < cnt ls hs
 | [],[],[],_=>by simp [rkU,cnt]
 | x :: xs,l :: ls,h :: hs,hb=>by
  have ih:=rkU_lt hb.2;have h1:(h - l+1).toNat=(h - x).toNat+(x - l).toNat+1:=by have:=hb.1;omega
  show (x - l).toNat * cnt ls hs+rkU xs ls hs < (h - l+1).toNat * cnt ls hs;rw [h1,Nat.add_mul,Nat.add_mul,Nat.one_mul];omega
theorem up_next:∀ {xs ls hs ys:List Int} {b:Bool},Btw xs ls hs→up xs ls hs=(ys,b)→Btw ys ls hs∧(b=true→rkU ys ls hs=rkU xs ls hs+1)∧(b=false→ys=ls∧rkU xs ls hs+1=cnt ls hs∧rkU ys ls hs=0)
 | [],[],[],ys,b,_,e=>by
  simp [up] at e;obtain ⟨rfl,rfl⟩:=e;exact ⟨trivial,fun h=>by simp at h,fun _=>⟨rfl,rfl,rfl⟩⟩
 | x :: xs,l :: ls,h :: hs,ys,b,hb,e=>by
  rcases hu:up xs ls hs with ⟨zs,c⟩
  obtain ⟨k1,k2,k3⟩:=up_next hb.2 hu;cases c with
  | true=>
   rw [up_cons_t hu] at e;cases e;refine ⟨⟨hb.1,k1⟩,fun _=>?_,fun h=>by simp at h⟩;have:=k2 rfl;show (x - l).toNat * cnt ls hs+rkU zs ls hs=(x - l).toNat * cnt ls hs+rkU xs ls hs+1;omega
  | false=>
   obtain ⟨m1,m2,m3⟩:=k3 rfl;by_cases hx:x < h
   .rw [up_cons_s hu hx] at e;cases e;refine ⟨⟨by have:=hb.1;omega,k1⟩,fun _=>?_,fun h=>by simp at h⟩;show (x+1 - l).toNat * cnt ls hs+rkU zs ls hs=(x - l).toNat * cnt ls hs+rkU xs ls hs+1;have h1:(x+1 - l).toNat=(x - l).toNat+1:=by have:=hb.1;omega
    rw [h1,Nat.add_mul,Nat.one_mul];omega
   .rw [up_cons_f hu hx] at e;cases e;have hb1:=hb.1;refine ⟨⟨Zo,k1⟩,fun h=>by simp at h,fun _=>⟨by rw [m1],?_,?_⟩⟩
    .show (x - l).toNat * cnt ls hs+rkU xs ls hs+1=(h - l+1).toNat * cnt ls hs;have h1:(h - l+1).toNat=(x - l).toNat+1:=by omega
     rw [h1,Nat.add_mul,Nat.one_mul];omega
    .show (l - l).toNat * cnt ls hs+rkU zs ls hs=0;rw [Int.sub_self,m3];simp
theorem least_ex {R:Nat→Prop} (h:∃ k,R k):∃ k,R k∧∀ j,j < k→¬ R j:=by
 obtain ⟨k,hk⟩:=h
 induction k using Nat.strongRecOn with
 | ind k ih=>
  by_cases hj:∃ j,j < k∧R j
  .obtain ⟨j,h1,h2⟩:=hj;exact ih j h1 h2
  .exact ⟨k,hk,fun j h1 h2=>hj ⟨j,h1,h2⟩⟩
noncomputable def leastOf (R:Nat→Prop):Nat:=@Classical.epsilon Nat ⟨0⟩ fun k=>R k∧∀ j,j < k→¬ R j
theorem leastOf_spec {R:Nat→Prop} (h:∃ k,R k):R (leastOf R)∧∀ j,j < leastOf R→¬ R j:=Classical.epsilon_spec (p:=fun k=>R k∧∀ j,j < k→¬ R j) (least_ex h)
theorem leastOf_le {R:Nat→Prop} {k:Nat} (h:R k):leastOf R≤k:=by
 rcases Nat.lt_or_ge k (leastOf R) with h1 | h1
 .exact absurd h ((leastOf_spec ⟨k,h⟩).2 k h1)
 .exact h1
noncomputable def srch (T:List Int→Prop) (ls hs:List Int):Nat→List Int→Option (List Int)
 | 0,_=>none
 | k+1,xs=>@ite _ (T xs) (Classical.propDecidable _) (some xs) (match up xs ls hs with | (ys,true)=>srch T ls hs k ys | (_,false)=>none)
theorem srch_yes {T:List Int→Prop} {ls hs xs:List Int} {k:Nat} (h:T xs):srch T ls hs (k+1) xs=some xs:=by rw [srch,if_pos h]
theorem srch_up {T:List Int→Prop} {ls hs xs ys:List Int} {k:Nat} (h:¬ T xs) (e:up xs ls hs=(ys,true)):srch T ls hs (k+1) xs=srch T ls hs k ys:=by rw [srch,if_neg h,e]
theorem srch_end {T:List Int→Prop} {ls hs xs ys:List Int} {k:Nat} (h:¬ T xs) (e:up xs ls hs=(ys,false)):srch T ls hs (k+1) xs=none:=by rw [srch,if_neg h,e]
def OnWay (T:List Int→Prop) (ls hs:List Int) (o:Option (List Int)) (k:Nat) (xs:List Int):Prop:=Btw xs ls hs∧rkU xs ls hs+k=cnt ls hs∧srch T ls hs k xs=o
theorem OnWay.btw {T:List Int→Prop} {ls hs:List Int} {o:Option (List Int)} {k:Nat} {xs:List Int} (h:OnWay T ls hs o k xs):Btw xs ls hs:=h.1
theorem OnWay.start {T:List Int→Prop} {ls hs:List Int} {o:Option (List Int)} (h:Btw ls ls hs) (e:srch T ls hs (cnt ls hs - rkU ls ls hs) ls=o):OnWay T ls hs o (cnt ls hs - rkU ls ls hs) ls:=⟨h,by have:=rkU_lt h;omega,e⟩
theorem OnWay.yes {T:List Int→Prop} {ls hs xs:List Int} {o:Option (List Int)} {k:Nat} (h:OnWay T ls hs o k xs) (ht:T xs):o=some xs:=by
 obtain ⟨h1,h2,h3⟩:=h;have:=rkU_lt h1;obtain ⟨m,rfl⟩:∃ m,k=m+1:=⟨k - 1,Zo⟩;rw [← h3,srch_yes ht]
theorem OnWay.next {T:List Int→Prop} {ls hs xs ys:List Int} {o:Option (List Int)} {k:Nat} (h:OnWay T ls hs o k xs) (ht:¬ T xs) (e:up xs ls hs=(ys,true)):∃ m,m < k∧OnWay T ls hs o m ys:=by
 obtain ⟨h1,h2,h3⟩:=h;have:=rkU_lt h1;obtain ⟨m,rfl⟩:∃ m,k=m+1:=⟨k - 1,Zo⟩;obtain ⟨k1,k2,_⟩:=up_next h1 e;have:=k2 rfl;exact ⟨m,Zo,k1,Zo,by rw [← h3,srch_up ht e]⟩
theorem OnWay.stop {T:List Int→Prop} {ls hs xs ys:List Int} {o:Option (List Int)} {k:Nat} (h:OnWay T ls hs o k xs) (ht:¬ T xs) (e:up xs ls hs=(ys,false)):o=none:=by
 obtain ⟨h1,h2,h3⟩:=h;have:=rkU_lt h1;obtain ⟨m,rfl⟩:∃ m,k=m+1:=⟨k - 1,Zo⟩;rw [← h3,srch_end ht e]
open Go.RowKit
theorem up_mid {xs ls:List Int} {j:Nat} {l:Int} (hl:xs.length=ls.length) (h:ls[j]?=some l):(xs.take (j+1)++ls.drop (j+1)).set j l=xs.take j++ls.drop j:=by
 obtain ⟨h1,h2⟩:=List.getElem?_eq_some_iff.1 h;have hj:j < xs.length:=by omega
 rw [List.take_add_one,List.getElem?_eq_getElem hj,List.append_assoc];rw [List.set_append_right _ _ (by simp;omega),List.length_take,Nat.min_eq_left Zo,Nat.sub_self];simp [List.drop_eq_getElem_cons h1,h2]
theorem up_mid2 {xs ls:List Int} {j:Nat} {x:Int} (y:Int) (h:xs[j]?=some x):(xs.take (j+1)++ls.drop (j+1)).set j y=xs.take j++y :: ls.drop (j+1):=by
 obtain ⟨h1,h2⟩:=List.getElem?_eq_some_iff.1 h;rw [List.take_add_one,h,List.append_assoc];rw [List.set_append_right _ _ (by simp;omega),List.length_take,Nat.min_eq_left Zo,Nat.sub_self];simp
theorem up_get {xs ls:List Int} {j:Nat} {x:Int} (h:xs[j]?=some x):(xs.take (j+1)++ls.drop (j+1))[j]?=some x:=by
 obtain ⟨h1,h2⟩:=List.getElem?_eq_some_iff.1 h;rw [List.getElem?_append_left (by simp;omega),List.getElem?_take,if_pos Zo,h]
theorem mq34 {p:Prop} (h:p:=by simp only [intOf];omega):p:=h
theorem c_countUp {A L H:Option Addr} {n c lc hc B:Nat} {xs ls hs ys:List Int} {b:Bool} {w:World} (hu:up xs ls hs=(ys,b)) (h0:OwI w B A n c xs) (h1:RI w L n ls) (h2:RI w H n hs) (hbt:Btw xs ls hs)
 (hL:∀ g o s g' o' s',A=some ⟨g,o,s⟩→L=some ⟨g',o',s'⟩→g'≠g) (hH:∀ g o s g' o' s',A=some ⟨g,o,s⟩→H=some ⟨g',o',s'⟩→g'≠g) (hbig:(∀ (k:Nat) (h:Int),hs[k]?=some h→h≤1000000)∧∀ (k:Nat) (l:Int),ls[k]?=some l→-1000000≤l) :
 Calls Tryz.prog 22 #[.slice A n c,.slice L n lc,.slice H n hc] w fun e w'=>e=.returned (.bool b)∧OwI w' B A n c ys∧OnlyA w w' A:=by
 have hn:=h0.le;have hxl:=h0.len;have hll:=h1.len;have hhl:=h2.len;have H0:=Zh h0;have HL:=Zh h1;have HH:=Zh h2;have HU:=Zh hu;have HBT:=Zh hbt;have HBIG:=Zh hbig;clear h0 h1 h2 hu hbt hbig;go_enter Tryz.func22,Tryz.ntmps22;go_wp2_with fail;go_loopw [7] (fun i wr=>∃ j:Nat,i=.int .i64 ((j:Int) - 1)∧j≤n∧Hid (OwI wr B A n c (xs.take j++ls.drop j)∧up (xs.drop j) (ls.drop j) (hs.drop j)=(ls.drop j,false))∧Hid (OnlyA w wr A)) (fun i _=>(intOf i+1).toNat)
 case atStart=>exact ⟨n,by go_num,Nat.le_refl _,Zh ⟨by rw [List.take_of_length_le Zo,List.drop_of_length_le Zo,List.append_nil];exact H0.out,by rw [List.drop_of_length_le Zo,List.drop_of_length_le Zo,List.drop_of_length_le Zo];rfl⟩,Zh (OnlyA.refl _ _)⟩
 case round=>
  obtain ⟨j1,rfl,hj1,hO,hG⟩:=hrel;rcases Nat.eq_zero_or_pos j1 with hz | hz
  .subst hz;have HE:=Zh (show ys=ls∧b=false by
    have h3:=hO.out.2;rw [List.drop_zero,List.drop_zero,List.drop_zero,HU.out] at h3;cases h3;exact ⟨rfl,rfl⟩)
   have HO:=Zh (show OwI wr B A n c ls by have:=hO.out.1;simpa using this);go_wp2;go_ret;exact ⟨ret_bool HE.out.2.symm,by rw [HE.out.1];exact HO.out,hG.out⟩
  .obtain ⟨j,rfl⟩:∃ j,j1=j+1:=⟨j1 - 1,Zo⟩;have hji:(((j+1:Nat):Int)) - 1=(j:Int):=by omega
   rw [hji];have hjn:j < n:=by omega
   obtain ⟨g,rfl,hgB,_⟩:∃ g,A=some ⟨g,0,none⟩∧B≤g∧g < wr.heap.size:=by
    rcases hO.out.1.form with ⟨_,h0,_⟩ | h
    .omega
    .exact h
   obtain ⟨x,hx⟩:∃ x,xs[j]?=some x:=⟨_,List.getElem?_eq_getElem Zo⟩;obtain ⟨l,h,hl,hh,hlx,hxh⟩:=HBT.out.at_ hx;obtain ⟨x',hx',hcx,hfx⟩:=OwI.at_ hO.out.1 hjn;rw [up_get hx] at hx';cases hx';obtain ⟨bl,ol,l',rfl,hl',hcl⟩:=RI.at_ (RI.onlyA HL.out hG.out hL) hjn;rw [hl] at hl';cases hl';obtain ⟨bh,oh,h',rfl,hh',hch⟩:=RI.at_ (RI.onlyA HH.out hG.out hH) hjn;rw [hh] at hh';cases hh';have hhb:=HBIG.out.1 j h hh;have hlb:=HBIG.out.2 j l hl;have HXJ:=Zh hx;have HLJ:=Zh hl;have HHJ:=Zh hh;have hj0:(0:Int)≤(j:Int):=by omega
   have hjni:(j:Int) < (n:Int):=by omega
   clear hx hl hh;by_cases hxh2:x < h
   .have hd2:decide (x < h)=true:=by simpa using hxh2
    have HE:=Zh (show ys=xs.take j++(x+1) :: ls.drop (j+1)∧b=true by
     have h3:=up_at Zo Zo HXJ.out HHJ.out hxh2 hO.out.2;rw [HU.out] at h3;cases h3;exact ⟨rfl,rfl⟩)
    have hw1:IntKind.i64.wrap (x+1)=x+1:=IntWalk.i64_in _ Zo;go_wp2_with fail;go_quiet (fail)
    have HN:=Zh (show OwI ((wr.drewN nq).setCell ⟨g,j,none⟩ (.int .i64 (x+1))) B (some ⟨g,0,none⟩) n c (xs.take j++(x+1) :: ls.drop (j+1)) by rw [← up_mid2 (x+1) HXJ.out];exact OwI.set (OwI.drewN hO.out.1 nq) j (x+1));have HG:=Zh (OnlyA.trans (OnlyA.trans hG.out (OnlyA.of_ext (extX:Ext wr (wr.drewN nq)) _)) (Only.setCell (wr.drewN nq) g j (.int .i64 (x+1))));go_wp2;go_ret;exact ⟨ret_bool HE.out.2.symm,by rw [HE.out.1];exact HN.out,HG.out⟩
   .have hd2:decide (x < h)=false:=by simpa using hxh2
    have HB:=Zh (up_back HXJ.out HLJ.out HHJ.out hxh2 hO.out.2);go_wp2_with fail;go_quiet (fail)
    have HN:=Zh (show OwI ((wr.drewN nq).setCell ⟨g,j,none⟩ (.int .i64 l)) B (some ⟨g,0,none⟩) n c (xs.take j++ls.drop j) by rw [← up_mid Zo HLJ.out];exact OwI.set (OwI.drewN hO.out.1 nq) j l);have HG:=Zh (OnlyA.trans (OnlyA.trans hG.out (OnlyA.of_ext (extX:Ext wr (wr.drewN nq)) _)) (Only.setCell (wr.drewN nq) g j (.int .i64 l)));go_wp2;go_roundw
    case rel=>exact ⟨j,by go_num,Zo,Zh ⟨HN.out,HB.out⟩,HG⟩
    case measure=>exact mq34
end Go.Proofs.YtiblbnkpjmmjaaaGreat
namespace Go.Proofs.YtiblbnkpjmmjaaaGreat
open Go.ChangeShapes Go.WideShapes Go.ChangeAt Go.RowKit Go.Joins Go.Deep
theorem own:ownKnob Tryz.prog.godebug=none:=Zk
theorem laidOut:laidOutB Tryz.prog=true:=Zk
section
variable {H:Type} {enc:TypeId×Value→H} {w:World} {base b0:Nat} {held:Bool} {r:Reach}
end
end Go.Proofs.YtiblbnkpjmmjaaaGreat
namespace Go.Proofs.YtiblbnkpjmmjaaaGreat
open Go.RowKit
theorem OwI.freshP {w:World} (x:Int):OwI (w.alloc (.cells #[.int .i64 x] 2)) w.heap.size (some ⟨w.heap.size,0,none⟩) 1 1 [x]:=
 ⟨by simp,by simp,.inr ⟨w.heap.size,1,_,rfl,Nat.le_refl _,heap_alloc_new w _,Nat.le_refl _,by unfold maxLen;omega,by simp,by simp⟩⟩
theorem c_sSysOkP {v:Value} {s:Sy} {w:World} {b:Bool} (hb:sysOk s=b) (h0:RdSyC w v s) :
 Calls Tryz.prog 30 #[v] w fun e w'=>e=.returned (.bool b)∧Ext w w':=
 (c_sSystemOk h0).mono fun _ _ ⟨he,hw⟩=>⟨he.trans (ret_bool hb),hw⟩
theorem c_iSysOkP {v:Value} {s:Sy} {w:World} {b:Bool} (hb:sysOk s=b) (h0:RdSyC w v s) :
 Calls Tryz.prog 19 #[v] w fun e w'=>e=.returned (.bool b)∧Ext w w':=
 (c_iSystemOk h0).mono fun _ _ ⟨he,hw⟩=>⟨he.trans (ret_bool hb),hw⟩
theorem fndAll_some {lex:Bool} {s:Sy} {x:List Int}:∀ rs,fndAll lex s rs (some x)=some x
 | []=>rfl
 | _ :: rs=>fndAll_some rs
def TO (lex:Bool) (s:Sy) (us:List Int):Prop:=orientsV lex s us=true
theorem fnd_gs {lex:Bool} {s:Sy}:∀ (k:Nat) (us:List Int),fndAll lex s (lstR k us) none=gsR (TO lex s) (k+1) us
 | 0,us=>by
  show fndN lex s us none=_;unfold gsR fndN;by_cases h:orientsV lex s us=true
  .rw [if_pos h,if_pos (show TO lex s us from h)]
  .rw [if_neg h,if_neg (show ¬ TO lex s us from h)];by_cases hb:nextB us=true
   .rw [if_pos hb];rfl
   .rw [if_neg hb]
 | k+1,us=>by
  show fndAll lex s (if nextB us=true then lstR k (nextV us) else []) (fndN lex s us none)=_;unfold gsR;by_cases h:orientsV lex s us=true
  .rw [if_pos (show TO lex s us from h),show fndN lex s us none=some us by simp [fndN,h]];exact fndAll_some _
  .rw [if_neg (show ¬ TO lex s us from h),show fndN lex s us none=none by simp [fndN,h]];by_cases hb:nextB us=true
   .rw [if_pos hb,if_pos hb];exact fnd_gs k _
   .rw [if_neg hb,if_neg hb];rfl
theorem ansF_gs {lex:Bool} {s:Sy} (h:sysOk s=true):gsR (TO lex s) (muR (upI 0 s.ar.length)+1) (upI 0 s.ar.length)=ansF lex s:=by
 unfold ansF;rw [if_pos h];exact (fnd_gs _ _).symm
theorem rank_of_perm {s:Sy} {us:List Int} (hs:SysP s) (hp:permOk us=true) (hl:us.length=s.ar.length):rankOk s.ar us=true:=by
 rw [rankOk_iff];exact ⟨hs.1,hl,fun i hi=>(permOk_mem hp).2 ⟨Zo,Zo⟩⟩
theorem c_sSystemOkF {k0:Bool} {v:Value} {s:Sy} {w:World} {b:Bool} (hb:sysOk s=b) (h0:RdSyK k0 w v s) :
 Calls Tryz.prog 30 #[v] w fun e w'=>e=.returned (.bool b)∧Ext w w':=
 (c_sSystemOk h0).mono fun _ _ ⟨he,hw⟩=>⟨he.trans (ret_bool hb),hw⟩
theorem c_l13OrF {v0 v1:Value} {s:Sy} {rk:List Int} {b:Bool} {w:World} (hb:lpAll true s rk=b) (h0:RdSyC w v0 s) (h1:RdI w v1 rk) (hs:SysP s) (hk:rankOk s.ar rk=true) :
 Calls Tryz.prog 32 #[v0,v1] w fun e w'=>e=.returned (.bool b)∧Ext w w':=by subst hb;exact c_l13Orients h0 h1 hs hk
noncomputable def frMeas (T:List Int→Prop) (n0:Nat) (o:Option (List Int)) (v mv:Value) (w:World):Nat:=match mv with
 | .bool true=>leastOf (fun k=>∃ A n c rk,v=.slice A n c∧RI w A n rk∧rk.length=n0∧OnG T o k rk)+1
 | _=>0
theorem frMeas_t {T:List Int→Prop} {n0:Nat} {o:Option (List Int)} {v:Value} {w:World}:frMeas T n0 o v (.bool true) w=leastOf (fun k=>∃ A n c rk,v=.slice A n c∧RI w A n rk∧rk.length=n0∧OnG T o k rk)+1:=rfl
theorem frMeas_f {T:List Int→Prop} {n0:Nat} {o:Option (List Int)} {v:Value} {w:World}:frMeas T n0 o v (.bool false) w=0:=rfl
theorem upI_snoc (n:Nat):∀ a:Int,upI a (n+1)=upI a n++[a+n]:=by
 induction n with
 | zero=>intro a;simp [upI]
 | succ n ih=>
  intro a;show a :: upI (a+1) (n+1)=(a :: upI (a+1) n)++[a+((n+1:Nat):Int)];rw [ih,List.cons_append]
  congr 3
  omega
theorem c_l16First {n:Nat} {w:World} (hn:n≤1000):Calls Tryz.prog 31 #[.int .i64 (n:Int)] w (NewI w (upI 0 n)):=by
 obtain ⟨i0,hii,hiz,his,hib⟩:=info_parts int64_info;go_enter Tryz.func31,Tryz.ntmps31;have HO0:=Zh (OwI.none0 (w:=w) (D:=w.heap.size) (Nat.le_refl _));go_wp2_with fail;go_loopw [3,4] (fun ov iv wr=>∃ k:Nat,iv=.int .i64 k∧k≤n∧(∃ A c,ov=.slice A k c∧Hid (OwI wr w.heap.size A k c (upI 0 k)))∧Hid (Ext w wr)) (fun _ iv _=>n - (intOf iv).toNat)
 case atStart=>exact ⟨0,rfl,Nat.zero_le _,⟨_,0,rfl,HO0⟩,Zh ((Ext.refl w).alloc _)⟩
 case round=>
  obtain ⟨k,rfl,hk,⟨A,c,rfl,hO⟩,hE⟩:=hrel;by_cases hlt:k < n
  .have hki:(k:Int) < (n:Int):=by omega
   have hsr:=hE.out.size;have HF:=Zh (OwI.freshP (w:=wr) (k:Int)).ri;have hcp:=hO.out.cap;have hob:=hO.out.ob2;go_wp2_with (at_builtin;go_loud (refine wpList_append_ints rfl (.tmp 11) (.tmp 13) 27 rfl i0 Tryz.underlying27 hii hiz his hib (D:=w.heap.size) rfl (OwI.alloc hO.out _) rfl (show RI (wr.alloc (.cells #[.int .i64 (k:Int)] 2)) (some ⟨wr.heap.size,0,none⟩) 1 [(k:Int)] from HF.out) Zo (by simp only [World.size_alloc];omega) hcp.1 ?_))
   intro A3 c3 w3 hO3 hg3 hat3;have hE3:Ext w w3:=Ext.grown (hE.out.alloc _) hg3 (fun b hb=>(hob b hb).1);have HO3:=Zh (show OwI w3 w.heap.size A3 (k+1) c3 (upI 0 (k+1)) from by
    rw [upI_snoc,Int.zero_add];exact hO3)
   clear hO3 hg3 hat3 hob HF hcp;go_wp2;go_roundw
   case rel=>exact ⟨k+1,by go_num,Zo,⟨_,_,rfl,HO3⟩,Zh hE3⟩
   case measure=>exact mq34
  .obtain rfl:k=n:=by omega
   go_wp2;go_ret;exact ⟨A,k,c,rfl,hO.out,hE.out⟩
def SfOut (w:World) (o:Option (List Int)) (e:Ending) (w':World):Prop:=∃ A n c,e=.returned (.tuple #[.slice A n c,.bool o.isSome])∧RI w' A n (o.getD [])∧Ext w w'
theorem c_sFirstRank {v0:Value} {s:Sy} {o:Option (List Int)} {w:World} (ho:ansF true s=o) (h0:RdSyC w v0 s) :
 Calls Tryz.prog 9 #[v0] w fun e w'=>SfOut w o e w':=by
 obtain ⟨A0,n0,c0,B0,m0,d0,rfl,ha,hb⟩:=h0;have HA:=Zh ha;have HB:=Zh hb;have hL:=ha.1.1;clear ha hb;cases hs:sysOk s with
 | false=>
  have hn:o=none:=by rw [← ho];unfold ansF;rw [hs];rfl
  subst hn;have HSO:=Zh hs;clear ho hs;go_enter Tryz.func9,Tryz.ntmps9;go_wp2_with fail
  (with_reducible refine (c_sSystemOkF HSO.out (RdSyK.mk (RI.ext HA.out extX) (RR.ext HB.out extX))).mono ?_);rintro e w2 ⟨rfl,hE2⟩;have HE2:=Zh (show Ext w w2 by exact extX);clear hE2;go_wp2_with fail;refine bodyPost_ret (v:=.tuple #[.slice (some ⟨w2.heap.size,0,none⟩) 0 0,.bool false]) (by simp [results,Tryz.results9,go_sem]) rfl ?_;exact ⟨_,0,0,rfl,⟨⟨rfl,by decide⟩,Zo⟩,HE2.out.alloc _⟩
 | true=>
  have hSy:=sysOk_iff.1 hs;have h8:s.ar.length≤8:=hSy.1.2.1;have HSP:=Zh hSy;have HSO:=Zh hs;have HW0:=Zh (show OnG (TO true s) o (muR (upI 0 n0)+1) (upI 0 n0) from OnG.start (upI_ok Zo) (by rw [← hL,ansF_gs hs];exact ho));clear ho hs hSy;go_enter Tryz.func9,Tryz.ntmps9;go_wp2_with fail
  (with_reducible refine (c_sSystemOkF HSO.out (RdSyK.mk (RI.ext HA.out extX) (RR.ext HB.out extX))).mono ?_);rintro e w2 ⟨rfl,hE2⟩;have b0:w2.cell? ⟨w.heap.size,0,none⟩=some (.slice A0 n0 c0):=Ext.keep hE2 (by simp [go_sem]);have b1:w2.cell? ⟨w.heap.size,1,none⟩=some (.slice B0 m0 d0):=Ext.keep hE2 (by simp [go_sem]);have HE2:=Zh (show Ext w w2 by exact extX);clear hE2;go_wp2_with fail
  (with_reducible refine (c_l16First (n:=n0) Zo).mono ?_);rintro e w3 ⟨RA,rn,rc,rfl,hR3,hE3⟩;have hcp3:=hR3.cap;have HR3:=Zh hR3.ri;have k0:=Ext.keep hE3 b0;have k1:=Ext.keep hE3 b1;have HE3:=Zh (Ext.trans HE2.out hE3);clear hR3 hE3 b0 b1;go_wp2_with fail;go_loopw [4,5] (fun rv mv wr=>∃ more:Bool,mv=.bool more∧Hid (Ext w3 wr)∧Hid ((more=true→∃ k RA rn rc rk,rv=.slice RA rn rc∧RI wr RA rn rk∧(rn≤rc∧rc≤9223372036854775807)∧rk.length=n0∧OnG (TO true s) o k rk)∧(more=false→o=none))) (fun rv mv wr=>frMeas (TO true s) n0 o rv mv wr)
  case atStart=>exact ⟨true,rfl,Zh (Ext.refl _),Zh ⟨fun _=>⟨_,RA,rn,rc,_,rfl,HR3.out,hcp3,upI_len _ _,HW0.out⟩,fun h=>by cases h⟩⟩
  case round=>
   obtain ⟨more,rfl,hEr,hI⟩:=hrel;have HErw:=Zh (Ext.trans HE3.out hEr.out);have y0:=Ext.keep hEr.out k0;have y1:=Ext.keep hEr.out k1;cases more with
   | false=>
    have HN:=Zh (hI.out.2 rfl);go_wp2_with fail;rw [HN.out];refine bodyPost_ret (v:=.tuple #[.slice (some ⟨wr.heap.size,0,none⟩) 0 0,.bool false]) (by simp [results,Tryz.results9,go_sem]) rfl ?_;exact ⟨_,0,0,rfl,⟨⟨rfl,by decide⟩,Zo⟩,HErw.out.alloc _⟩
   | true=>
    obtain ⟨_,RA,rn,rc,_,rfl,_,hcp,_,_⟩:=hI.out.1 rfl;have hex:∃ k,∃ A n c rk,Value.slice RA rn rc=.slice A n c∧RI wr A n rk∧rk.length=n0∧OnG (TO true s) o k rk:=by
     obtain ⟨k,RA',rn',rc',rk,h0,h1,h2,h3,h4⟩:=hI.out.1 rfl;exact ⟨k,RA',rn',rc',rk,h0,h1,h3,h4⟩
    obtain ⟨⟨A',n',c',rk,e',hX,hlen,hW⟩,_⟩:=leastOf_spec hex;have e1:RA=A':=by cases e';rfl
    have e2:rn=n':=by cases e';rfl
    have e3:rc=c':=by cases e';rfl
    subst e1;subst e2;subst e3;clear e';have hk:rankOk s.ar rk=true:=rank_of_perm HSP.out hW.1 (by rw [hlen,hL]);have HK:=Zh hk;have HTO:=Zh (show TO true s rk↔lpAll true s rk=true by unfold TO;rw [orientsV_all HSO.out hk]);have HX:=Zh hX;have HW:=Zh hW;have HLN:=Zh hlen;obtain ⟨g,hg⟩:∃ g,lpAll true s rk=g:=⟨_,rfl⟩;have HG:=Zh hg;clear hX hW hex hg hk hlen;go_wp2_with fail
    (with_reducible refine (c_l13OrF HG.out (RdSyK.mk (RI.ext HA.out HErw.out) (RR.ext HB.out HErw.out)) (RdI.mk HX.out) HSP.out HK.out).mono ?_);rintro e w5 ⟨rfl,hE5⟩;have HE5:=Zh (Ext.trans hEr.out hE5);have HE5w:=Zh (Ext.trans HErw.out hE5);have HX5:=Zh (RI.ext HX.out hE5);have z0:=Ext.keep hE5 y0;have z1:=Ext.keep hE5 y1;clear hE5 y0 y1;cases g with
    | true=>
     have ho:o=some rk:=HW.out.yes (HTO.out.2 HG.out);go_wp2_with fail;refine bodyPost_ret (v:=.tuple #[.slice RA rn rc,.bool true]) (by simp [results,Tryz.results9,go_sem]) rfl ?_;rw [ho];exact ⟨RA,rn,rc,rfl,HX5.out,HE5w.out⟩
    | false=>
     have hgo:¬ TO true s rk:=fun h=>by have h2:=HTO.out.1 h;rw [HG.out] at h2;cases h2
     obtain ⟨nb,hnb⟩:∃ b,nextB rk=b:=⟨_,rfl⟩;have HNB:=Zh hnb;clear hnb;go_wp2_with fail
     (with_reducible refine (c_sNextRank HX5.out hcp).mono ?_);rintro e w6 ⟨NA,nn,nc,rfl,hncp,hnfar,hNR,hE6⟩;rw [HNB.out];have HE6:=Zh (Ext.trans HE5.out hE6);have HNR:=Zh hNR;have HNX:=Zh (show (nb=true→∃ m,m < leastOf (fun k=>∃ A n c rk,Value.slice RA rn rc=.slice A n c∧RI wr A n rk∧rk.length=n0∧OnG (TO true s) o k rk)∧OnG (TO true s) o m (nextV rk))∧(nb=false→o=none) from ⟨fun e=>by rw [e] at HNB;exact HW.out.next hgo HNB.out,fun e=>by rw [e] at HNB;exact HW.out.stop hgo HNB.out⟩);have HNL:=Zh (show nb=true→(nextV rk).length=n0 from fun e=>by rw [e] at HNB;rw [(nextV_up HNB.out).2.1];exact HLN.out);clear hNR hnfar z0 z1 hE6;go_wp2_with fail;go_roundw
     case rel=>exact ⟨nb,rfl,HE6,Zh ⟨fun e=>by
      obtain ⟨m,_,hm⟩:=HNX.out.1 e;exact ⟨m,NA,nn,nc,_,rfl,HNR.out,hncp,HNL.out e,hm⟩,HNX.out.2⟩⟩
     case measure=>
      rw [frMeas_t];cases nb with
      | false=>rw [frMeas_f];omega
      | true=>
       rw [frMeas_t];obtain ⟨m,hm1',hm2⟩:=HNX.out.1 rfl;have:=leastOf_le (R:=fun k=>∃ A n c rk,Value.slice NA nn nc=.slice A n c∧RI w6 A n rk∧rk.length=n0∧OnG (TO true s) o k rk) ⟨NA,nn,nc,_,rfl,HNR.out,HNL.out rfl,hm2⟩;omega

