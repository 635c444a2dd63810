/- -/
import Derived.Test.YtiblbnkpjmmjaaaGreatQ15
import Derived.Lib.OwnBridge
import Derived.Shelf.SortM.Plain
import Derived.Shelf.SortM.SortNone
import Derived.Shelf.SlicesG.Reverse
set_option maxRecDepth 100000
set_option maxHeartbeats 16000000
set_option linter.all false
namespace Go.Proofs.YtiblbnkpjmmjaaaGreat
open Go.RowKit
theorem ownsRow_putRowAt {w:World} {base:Nat} {e:TypeId} {g n cap q off:Nat} {zs ys:List Int} (h:w.ownsRow base e 1 (.slice (some ⟨g,0,none⟩) n cap) n (zs.map (Value.int .i64))) (hy:off+ys.length=n) :
 (Go.Sort.putRow (Value.int .i64) (Go.Sort.ahead w q) g off ys.toArray).ownsRow base e 1 (.slice (some ⟨g,0,none⟩) n cap) n ((zs.take off++ys).map (Value.int .i64)):=by
 have hzl:zs.length=n:=by simpa using h.1
 rcases h.2 with ⟨e0,_⟩ | ⟨g',cap',cur,e0,hb,hg,hn,hm,hs,ht⟩
 .cases e0
 .injection e0 with e1 _ e3
  injection e1 with e1
  injection e1 with e1
  subst e1;subst e3;refine ⟨by simp;omega,.inr ⟨g,cap,Go.Sort.putCells (Value.int .i64) off ys.toArray cur,rfl,hb,?_,by omega,hm,by simpa [Go.Sort.putCells] using hs,?_⟩⟩
  .simp [Go.Sort.putRow,Go.Sort.mapBlock,Go.Sort.ahead,Array.getElem?_modify,hg,Go.Sort.onCells]
  .apply List.ext_getElem?;intro j;have htj:(cur.toList.take (n * 1))[j]?=(zs.map (Value.int .i64))[j]?:=by rw [ht]
   rw [List.getElem?_take,Nat.mul_one,Array.getElem?_toList] at htj;rw [List.getElem?_take,Nat.mul_one,Array.getElem?_toList,List.getElem?_map];by_cases hj:j < n
   .have hjc:j < cur.size:=by omega
    rw [if_pos hj] at htj ⊢;rw [Array.getElem?_eq_getElem hjc,List.getElem?_map] at htj;simp only [Go.Sort.putCells,Array.getElem?_mapIdx,Array.getElem?_eq_getElem hjc,Option.map_some];by_cases hjo:off≤j
    .rw [if_pos ⟨hjo,by simp;omega⟩,List.getElem?_append_right (by rw [List.length_take];omega),List.length_take,Nat.min_eq_left (by omega),List.getElem?_eq_getElem (by omega)];simp [getElem!_pos,show j - off < ys.length by omega]
    .rw [if_neg (fun h=>hjo h.1),htj,List.getElem?_append_left (by rw [List.length_take];omega),List.getElem?_take,if_pos (by omega)]
   .rw [if_neg hj,List.getElem?_eq_none (by rw [List.length_append,List.length_take];omega)];rfl
theorem below_putRowAt {B:Nat} {w:World} {g q off:Nat} {d:Array Int} (hg:B≤g):Below B w (Go.Sort.putRow (Value.int .i64) (Go.Sort.ahead w q) g off d):=
 ⟨rfl,rfl,rfl,by simp [Go.Sort.putRow,Go.Sort.mapBlock,Go.Sort.ahead],fun k hk=>by
  simp [Go.Sort.putRow,Go.Sort.mapBlock,Go.Sort.ahead,Array.getElem?_modify,show g≠k by omega]⟩
def lay35_ren:Go.Shelf.Ren:=⟨fun | 35=>47 | n=>n,fun | 22=>27 | 23=>2 | 3=>3 | 4=>4 | 0=>0 | n=>n,fun n=>n⟩
theorem lay35:SlLaysN.n35 Tryz.prog lay35_ren:={ mixed:=by kernel_rfl,f35:=⟨Tryz.f47.name,by decide,Tryz.func47.trans (congrArg some (by kernel_rfl))⟩,t0:=Tryz.underlying0,a0:=Tryz.isAgg0,z0:=Tryz.sizeOf0,v0:=Tryz.zeroValue0,t3:=Tryz.underlying3,a3:=Tryz.isAgg3,z3:=Tryz.sizeOf3,v3:=Tryz.zeroValue3,t4:=Tryz.underlying4,a4:=Tryz.isAgg4,z4:=Tryz.sizeOf4,v4:=Tryz.zeroValue4,t22:=Tryz.underlying27,a22:=Tryz.isAgg27,z22:=Tryz.sizeOf27,v22:=Tryz.zeroValue27,t23:=Tryz.underlying2,a23:=Tryz.isAgg2,z23:=Tryz.sizeOf2,v23:=Tryz.zeroValue2 }
theorem c_reverseI {g n c B k m cap:Nat} {xs:List Int} {w:World} (h:OwI w B (some ⟨g,0,none⟩) n c xs) (hk:k≤n) (hm:m=n - k) (hg:B≤g) :
 Calls Tryz.prog 47 #[.slice (some ⟨g,k,none⟩) m cap] w fun e w'=>e=.returned (.tuple #[])∧OwI w' B (some ⟨g,0,none⟩) n c (xs.take k++(xs.drop k).reverse)∧Below B w w':=by
 have hl:=h.len;have hd:(xs.drop k).length=m:=by rw [List.length_drop];omega
 subst hd;have hH:Go.Sort.Holds (Value.int .i64) w g k (xs.drop k).toArray:=fun j hj=>by
  have hj':j < xs.length - k:=by simpa using hj
  obtain ⟨x,hx,hc,hf⟩:=OwI.at_ h (show k+j < n by omega);refine ⟨?_,hf⟩;rw [hc];have e:(xs.drop k).toArray[j]! = x:=by
   rw [getElem!_pos (xs.drop k).toArray j hj]
   simpa using (List.getElem?_eq_some_iff.1 hx).2
  rw [e]
 refine (AnyG.slices_Reverse_int lay35 g k cap (xs.drop k) w hH (by rw [List.length_drop];have:=h.1;omega)).mono ?_;rintro e w' ⟨rfl,q,rfl⟩;have h1:=ownsRow_putRowAt (q:=q) (off:=k) (ys:=(xs.drop k).reverse) h.2 (by simp;omega);exact ⟨rfl,⟨h.1,h1⟩,below_putRowAt hg⟩
theorem mq16 {p:Prop} (h:p:=by simp only [intOf];omega):p:=h
theorem c_firstPerm {n:Nat} {w:World} (hn:n≤1000):Calls Tryz.prog 23 #[.int .i64 (n:Int)] w (NewI w (upI 0 n)):=by
 obtain ⟨i0,hi0,hz0,hz1,hz2⟩:=info_parts int64_info;go_enter Tryz.func23,Tryz.ntmps23;go_wp2_with (at_make;refine wpList_make_full _ rfl _ _ 27 rfl w.heap.size 2 i0 _ 1 Tryz.underlying27 hi0 hz0 hz1 _ _ _ _ n rfl rfl rfl rfl (by rw [hz2];omega) (by simp only [maxLen];omega) (Nat.le_refl _) ?_)
 intro w1 hown0 hg;rw [madeInts] at hown0;have hown:=OwI.made hown0 (by omega);have hE:Ext w w1:=Ext.grown (Ext.refl _) hg (fun k hk=>by cases hk);go_wp2;go_loopw [9] (fun i wr=>∃ k:Nat,i=.int .i64 k∧k≤n∧Hid (OwI wr w.heap.size (some ⟨w.heap.size,0,none⟩) n n ((upI 0 n).take k++List.replicate (n - k) 0))∧Ext w wr) (fun i _=>n - (intOf i).toNat)
 case atStart=>exact ⟨0,rfl,Nat.zero_le _,Lib.hid (by rw [List.take_zero,List.nil_append,Nat.sub_zero];exact hown),hE⟩
 case round=>
  obtain ⟨k,rfl,hk,hO,hw⟩:=hrel;by_cases hlt:k < n
  .obtain ⟨z,hz,hcz,hfz⟩:=OwI.at_ hO.out hlt;have hx:=upI_get n 0 k hlt;rw [Int.zero_add] at hx;have HN:=Lib.hid (show OwI (wr.setCell ⟨w.heap.size,k,none⟩ (.int .i64 (k:Int))) w.heap.size (some ⟨w.heap.size,0,none⟩) n n ((upI 0 n).take (k+1)++List.replicate (n - (k+1)) 0) by
    have:=OwI.set hO.out k (k:Int);rw [set_take (upI_len 0 n) hx] at this;exact this)
   have hlt':(k:Int) < (n:Int):=by omega
   clear hz hx;go_wp2;go_roundw
   case rel=>exact ⟨k+1,by go_num,by omega,HN,Ext.set hw (Nat.le_refl _) _⟩
   case measure=>exact mq16
  .go_wp2;go_ret;have hkn:k=n:=by omega
   subst hkn;have e:(upI 0 k).take k++List.replicate (k - k) 0=upI 0 k:=by rw [Nat.sub_self,List.take_of_length_le (by rw [upI_len];exact Nat.le_refl _)];simp
   have hO2:=hO.out;rw [e] at hO2;exact ⟨_,_,_,rfl,hO2,hw⟩
theorem c_nextRank {A:Option Addr} {n c B:Nat} {xs:List Int} {w:World} (hok:permOk xs=true) (h:OwI w B A n c xs) (hB:B≤w.heap.size) :
 Calls Tryz.prog 24 #[.slice A n c] w fun e w'=>e=.returned (.bool (nextB xs))∧Below B w w'∧(nextB xs=true→OwI w' B A n c (nextV xs)):=by
 have hl:=h.len;have hn8:n≤8:=by rw [← hl];exact (permOk_iff.1 hok).2.2
 have HO:=Lib.hid h;have HL:=Lib.hid hl;have HOK:=Lib.hid hok;have hcap:=h.cap;clear h hl hok;go_enter Tryz.func24,Tryz.ntmps24;go_wp2_with fail;go_loopw [3] (fun iv wr=>∃ (z:Int) (k:Nat),iv=.int .i64 z∧(z=(k:Int) - 1∨z = -2∧k=0)∧k≤n - 1∧Hid (upGo xs k=upAt xs∧fallsFrom xs k)∧Ext w wr) (fun iv _=>(intOf iv+2).toNat)
 case atStart=>exact ⟨(n:Int) - 2,n - 1,by go_num,by omega,by omega,Lib.hid ⟨by rw [← HL.out];rfl,falls_last _ _ (by rw [HL.out];omega)⟩,extX⟩
 case round=>
  obtain ⟨z,k,rfl,hz,hk,hST,hE⟩:=hrel;rcases Nat.eq_zero_or_pos k with hk0 | hk0
  .subst hk0;have hzn:z < 0:=by omega
   have hzb:decide (0≤z)=false:=by simp;omega
   have HU:=Lib.hid (next_none (xs:=xs) hST.out.1.symm);go_wp2_with fail;go_quiet (fail)
   go_wp2;go_ret;exact ⟨ret_bool HU.out.2.symm,Below.mono (show Ext w _ by exact extX) hB,fun h=>by rw [HU.out.2] at h;cases h⟩
  .obtain ⟨p,rfl⟩:∃ p,k=p+1:=⟨k - 1,by omega⟩;have hzp:z=(p:Int):=by omega
   subst hzp;have hp1:p+1 < n:=by omega
   obtain ⟨g,rfl,hgB,_⟩:∃ g,A=some ⟨g,0,none⟩∧B≤g∧g < w.heap.size:=by
    rcases HO.out.form with ⟨_,h0,_⟩ | h
    .omega
    .exact h
   obtain ⟨x,hx,hcx,_⟩:=OwI.at_ (HO.out.ext hE) (show p < n by omega);obtain ⟨y,hy,hcy,_⟩:=OwI.at_ (HO.out.ext hE) hp1;have HX:=Lib.hid hx;have HY:=Lib.hid hy;have hpz:(0:Int)≤(p:Int):=by omega
   have hpd:decide ((0:Int)≤(p:Int))=true:=by simp
   have hpi:(p:Int) < (n:Int):=by omega
   clear hx hy;by_cases hxy:y < x
   .have hd2:decide (y < x)=true:=by simpa using hxy
    have HN:=Lib.hid (show upGo xs p=upAt xs∧fallsFrom xs p from ⟨by rw [← hST.out.1,upGo_go HX.out HY.out hxy],falls_down hST.out.2 HX.out HY.out hxy⟩);go_wp2_with fail;go_quiet (fail)
    go_wp2;go_roundw
    case rel=>exact ⟨(p:Int) - 1,p,by go_num,by omega,by omega,HN,extX⟩
    case measure=>exact mq16
   .have hd2:decide (y < x)=false:=by simpa using hxy
    have HUP:=Lib.hid (show upAt xs=some p by rw [← hST.out.1,upGo_stop HX.out HY.out hxy]);go_wp2_with fail;go_quiet (fail)
    obtain ⟨k0,a0,b0,hN⟩:=nextI HOK.out HUP.out;have hik:=hN.ik;have hkn:k0 < n:=by have:=(List.getElem?_eq_some_iff.1 hN.hb).1;rw [HL.out] at this;exact this
    have ha0:x=a0:=by have:=hN.ha;rw [HX.out] at this;exact Option.some.inj this
    subst ha0;have HNX:=Lib.hid hN;have HNV:=Lib.hid (nextV_some HOK.out HUP.out hN);have HNB:=Lib.hid (nextB_some HOK.out HUP.out);clear hN;go_wp2_with fail;go_loopw [4] (fun kv wr=>∃ q:Nat,kv=.int .i64 q∧k0≤q∧q < n∧Ext w wr) (fun kv _=>(intOf kv).toNat)
    case atStart=>exact ⟨n - 1,by go_num,by omega,by omega,extX⟩
    case round=>
     obtain ⟨q,rfl,hkq,hqn,hE2⟩:=hrel;obtain ⟨u,hu,hcu,hfu⟩:=OwI.at_ (HO.out.ext hE2) hqn;obtain ⟨x',hx',hcx',hfx'⟩:=OwI.at_ (HO.out.ext hE2) (show p < n by omega);rw [HX.out] at hx';cases hx';have hq0:(0:Int)≤(q:Int):=by omega
     have hqi:(q:Int) < (n:Int):=by omega
     rcases Nat.lt_or_ge k0 q with hlt | hge
     .have hux:u < x:=HNX.out.low q u hlt hu;have hud:decide (u < x)=true:=by simpa using hux
      clear hu;go_wp2_with fail;go_quiet (fail)
      go_wp2;go_roundw
      case rel=>exact ⟨q - 1,by go_num,by omega,by omega,extX⟩
      case measure=>exact mq16
     .have hqk:q=k0:=by omega
      subst hqk;have hub:u=b0:=by have:=HNX.out.hb;rw [hu] at this;exact Option.some.inj this
      subst hub;have hxu:=HNX.out.nx.lt;have hud:decide (u < x)=false:=by simp;omega
      have HSW:=Lib.hid (nextL_set HX.out hik hu);clear hu;have HOr:=Lib.hid (HO.out.ext hE2);go_wp2_with fail;go_quiet (fail)
      go_wp2_with fail;go_region_o
      have HS:=Lib.hid (show OwI (((wr.drewN (nq+1)).setCell ⟨g,p,none⟩ (.int .i64 u)).setCell ⟨g,q,none⟩ (.int .i64 x)) B (some ⟨g,0,none⟩) n c ((xs.set p u).set q x) from OwI.set (OwI.set (OwI.drewN HOr.out (nq+1)) p u) q x);have hBS:Below B w (((wr.drewN (nq+1)).setCell ⟨g,p,none⟩ (.int .i64 u)).setCell ⟨g,q,none⟩ (.int .i64 x)):=Below.setCell (Below.setCell (Below.mono (show Ext w _ from hE2.drewN _) hB) hgB _) hgB _;obtain ⟨ws,hws⟩:∃ ws,ws=((wr.drewN (nq+1)).setCell ⟨g,p,none⟩ (.int .i64 u)).setCell ⟨g,q,none⟩ (.int .i64 x):=⟨_,rfl⟩;rw [← hws] at HS hBS ⊢;clear hws;have hci:¬ c=p+1:=by omega
      have hp1c:(p:Int)+1≤(c:Int):=by omega
      go_wp2_with fail
      (with_reducible refine (c_reverseI (k:=p+1) HS.out (by omega) (by omega) hgB).mono ?_);rintro e w5 ⟨rfl,hO5,hB5⟩;have HO5:=Lib.hid hO5;clear hO5;go_wp2;go_ret;exact ⟨ret_bool HNB.out.symm,hBS.trans hB5,fun _=>by rw [HNV.out,← HSW.out];exact HO5.out⟩
theorem c_nextRank2 {A:Option Addr} {n c B:Nat} {xs:List Int} {b:Bool} {w:World} (hb:nextB xs=b) (hok:permOk xs=true) (h:OwI w B A n c xs) (hB:B≤w.heap.size) :
 Calls Tryz.prog 24 #[.slice A n c] w fun e w'=>e=.returned (.bool b)∧Below B w w'∧(b=true→OwI w' B A n c (nextV xs)):=by subst hb;exact c_nextRank hok h hB
theorem nextB_perm {xs:List Int} (h:nextB xs=false):nextV xs=[]:=by
 unfold nextB at h;cases hp:permOk xs with
 | false=>exact (next_bad hp).1
 | true=>
  rw [hp,Bool.true_and] at h;exact (next_none (Option.not_isSome_iff_eq_none.1 (by rw [h];decide))).1
end Go.Proofs.YtiblbnkpjmmjaaaGreat
namespace Go.Proofs.YtiblbnkpjmmjaaaGreat
def valR:List Int→Nat
 | []=>0
 | x :: t=>x.toNat * 8 ^ t.length+valR t
theorem valR_lt:∀ {t:List Int},(∀ x∈t,x < 8)→valR t < 8 ^ t.length
 | [],_=>by simp [valR]
 | x :: t,h=>by
  have ih:=valR_lt fun y hy=>h y (List.mem_cons_of_mem _ hy);have hx:x.toNat≤7:=by have:=h x List.mem_cons_self;omega
  have h1:x.toNat * 8 ^ t.length≤7 * 8 ^ t.length:=Nat.mul_le_mul_right _ hx;show x.toNat * 8 ^ t.length+valR t < 8 ^ (t.length+1);rw [Nat.pow_succ];omega
theorem valR_append:∀ (s t:List Int),valR (s++t)=valR s * 8 ^ t.length+valR t
 | [],t=>by simp [valR]
 | x :: s,t=>by
  show x.toNat * 8 ^ (s++t).length+valR (s++t)=(x.toNat * 8 ^ s.length+valR s) * 8 ^ t.length+valR t;rw [valR_append s t,List.length_append,Nat.pow_add,Nat.add_mul,Nat.mul_assoc];omega
theorem permOk_perm {xs ys:List Int} (h:permOk xs=true) (p:ys.Perm xs):permOk ys=true:=by
 obtain ⟨h1,h2,h3⟩:=permOk_iff.1 h;have hl:=p.length_eq;exact permOk_iff.2 ⟨p.nodup_iff.2 h1,fun x hx=>by rw [hl];exact h2 x (p.mem_iff.1 hx),by omega⟩
theorem nextV_up {xs:List Int} (hb:nextB xs=true):permOk (nextV xs)=true∧(nextV xs).length=xs.length∧valR xs < valR (nextV xs):=by
 unfold nextB at hb;rw [Bool.and_eq_true] at hb;obtain ⟨hp,hu⟩:=hb;obtain ⟨i,hi⟩:=Option.isSome_iff_exists.1 hu;obtain ⟨k,a,b,hN⟩:=nextI hp hi;rw [nextV_some hp hi hN];obtain ⟨pre,hpre⟩:∃ l,l=xs.take i:=⟨_,rfl⟩;obtain ⟨T1,hT1⟩:∃ l,l=(xs.take k).drop (i+1):=⟨_,rfl⟩;obtain ⟨T2,hT2⟩:∃ l,l=xs.drop (k+1):=⟨_,rfl⟩;have hx:=hN.nx.eq;have hlt:=hN.nx.lt;rw [← hpre,← hT1,← hT2] at hx ⊢;have hperm:(nextL pre a T1 b T2).Perm xs:=by
  rw [hx];unfold nextL;refine List.Perm.append_left pre ?_;refine (List.Perm.cons b (List.reverse_perm _)).trans ?_;refine ((List.perm_middle (l₁:=T1) (l₂:=T2) (a:=a)).cons b).trans ?_;refine (List.Perm.swap a b (T1++T2)).trans ?_;exact ((List.perm_middle (l₁:=T1) (l₂:=T2) (a:=b)).symm.cons a)
 obtain ⟨h1,h2,h3⟩:=permOk_iff.1 hp;refine ⟨permOk_perm hp hperm,hperm.length_eq,?_⟩;have ha:0≤a:=(h2 a (by rw [hx];simp)).1;have hd:∀ y∈T1++b :: T2,y < 8:=fun y hy=>by
  have:=(h2 y (by rw [hx];exact List.mem_append_right _ (List.mem_cons_of_mem _ hy))).2;omega
 have hv:=valR_lt hd;have hlen:((T1++a :: T2).reverse).length=(T1++b :: T2).length:=by simp;omega
 rw [hx];unfold nextL;rw [valR_append,valR_append];show _+(a.toNat * 8 ^ (T1++b :: T2).length+valR (T1++b :: T2)) < _+(b.toNat * 8 ^ ((T1++a :: T2).reverse).length+valR _);rw [List.length_cons,List.length_cons,hlen];have hab:a.toNat+1≤b.toNat:=by omega
 have h5:(a.toNat+1) * 8 ^ (T1++b :: T2).length≤b.toNat * 8 ^ (T1++b :: T2).length:=Nat.mul_le_mul_right _ hab;rw [Nat.add_mul,Nat.one_mul] at h5;omega
def muR (xs:List Int):Nat:=8 ^ xs.length - valR xs
theorem muR_next {xs:List Int} (hb:nextB xs=true):muR (nextV xs) < muR xs:=by
 obtain ⟨h1,h2,h3⟩:=nextV_up hb;obtain ⟨_,k2,k3⟩:=permOk_iff.1 h1;have h4:=valR_lt (t:=nextV xs) fun x hx=>by have:=(k2 x hx).2;omega
 unfold muR;rw [h2] at h4 ⊢;omega
noncomputable def gsR (T:List Int→Prop):Nat→List Int→Option (List Int)
 | 0,_=>none
 | k+1,xs=>@ite _ (T xs) (Classical.propDecidable _) (some xs) (if nextB xs=true then gsR T k (nextV xs) else none)
def OnG (T:List Int→Prop) (o:Option (List Int)) (k:Nat) (xs:List Int):Prop:=permOk xs=true∧muR xs < k∧gsR T k xs=o
theorem OnG.start {T:List Int→Prop} {o:Option (List Int)} {xs:List Int} (h:permOk xs=true) (e:gsR T (muR xs+1) xs=o):OnG T o (muR xs+1) xs:=⟨h,by omega,e⟩
theorem OnG.yes {T:List Int→Prop} {o:Option (List Int)} {k:Nat} {xs:List Int} (h:OnG T o k xs) (ht:T xs):o=some xs:=by
 obtain ⟨_,h2,h3⟩:=h;obtain ⟨m,rfl⟩:∃ m,k=m+1:=⟨k - 1,by omega⟩;rw [← h3,gsR,if_pos ht]
theorem OnG.next {T:List Int→Prop} {o:Option (List Int)} {k:Nat} {xs:List Int} (h:OnG T o k xs) (ht:¬ T xs) (hb:nextB xs=true):∃ m,m < k∧OnG T o m (nextV xs):=by
 obtain ⟨_,h2,h3⟩:=h;obtain ⟨m,rfl⟩:∃ m,k=m+1:=⟨k - 1,by omega⟩;rw [gsR,if_neg ht,if_pos hb] at h3;have:=muR_next hb;exact ⟨m,by omega,(nextV_up hb).1,by omega,h3⟩
theorem OnG.stop {T:List Int→Prop} {o:Option (List Int)} {k:Nat} {xs:List Int} (h:OnG T o k xs) (ht:¬ T xs) (hb:nextB xs=false):o=none:=by
 obtain ⟨_,h2,h3⟩:=h;obtain ⟨m,rfl⟩:∃ m,k=m+1:=⟨k - 1,by omega⟩;rw [gsR,if_neg ht,if_neg (by rw [hb];decide)] at h3;exact h3.symm
theorem upI_ok {n:Nat} (h:n≤8):permOk (upI 0 n)=true:=by
 have hl:(upI 0 n).length=n:=upI_len 0 n;refine permOk_iff.2 ⟨?_,fun x hx=>?_,by omega⟩
 .exact (upI_inc 0 n).imp fun h=>by omega
 .rw [hl];have:=(upI_mem).1 hx;omega
open Go.Conc
noncomputable def lstR:Nat→List Int→List (List Int)
 | 0,us=>[us]
 | k+1,us=>us :: if nextB us=true then lstR k (nextV us) else []
def VI (us:List Int) (x:Value) (b:Nat) (w:World):Prop:=
 ∃ c,x=.slice (some ⟨b,0,none⟩) us.length c∧0 < us.length∧OwI w 0 (some ⟨b,0,none⟩) us.length c us
theorem VI_ok:VOk VI:=fun r x b w w1 h e=>by
 obtain ⟨c,h1,h2,h3⟩:=h;exact ⟨c,h1,h2,h3.heap fun g hg=>by cases hg;exact e⟩
noncomputable def body_r:Code:=Tryz.f88.body.getD .skip
noncomputable def loop_r:Code:=match body_r with | .seq _ (.seq (.seq _ (.block _ (.loop c))) _)=>c | _=>.skip
noncomputable def first_r:Code:=match loop_r with | .seq r _=>r | _=>.skip
noncomputable def round_r:Code:=match loop_r with | .seq _ r=>r | _=>.skip
noncomputable def last_r:Code:=match body_r with | .seq _ (.seq _ r)=>r | _=>.skip
def Sd (m c:Nat) (more:Bool) (us:List Int) (a:Act) (v:World):Prop:=
 a.tmps.size=15∧a.tmps[1]?=some (pz (LM m).bad (.chan (some c)))∧a.tmps[5]?=some (.bool more) ∧
  (more=true→permOk us=true∧0 < us.length∧∃ g cp,a.tmps[4]?=some (.slice (some ⟨g,0,none⟩) us.length cp)∧OwI v 0 (some ⟨g,0,none⟩) us.length cp us)
theorem X (m:Nat):Cx Tryz.prog (LM m):=⟨PLM m,gM m,FnsM m⟩
theorem OwI.blkC {v:World} {B n c:Nat} {A:Option Addr} {us:List Int} (h:OwI v B A n c us) (hn:0 < n):∃ g cur,A=some ⟨g,0,none⟩∧B≤g∧v.heap[g]?=some (.cells cur 2)∧n≤c∧us.length=n∧n≤4194304∧(∀ (j:Nat) (y:Int),us[j]?=some y→cur[j]?=some (.int .i64 y)) ∧
 ∀ (v':World) (cur':Array Value) (g' B':Nat),B'≤g'→v'.heap[g']?=some (.cells cur' 2)→cur'.size=cur.size→(∀ (j:Nat) (y:Int),us[j]?=some y→cur'[j]?=some (.int .i64 y))→OwI v' B' (some ⟨g',0,none⟩) n c us:=by
 obtain ⟨h0,hl,h1⟩:=h;have hul:us.length=n:=by simpa using hl
 rcases h1 with ⟨e,_⟩ | ⟨g,cap,cur,e0,hb,hg,hn2,hm,hs,ht⟩
 .injection e with _ e;omega
 .injection e0 with e1 _ e3
  subst e1;subst e3;have hat:∀ (c':Array Value),c'.toList.take (n * 1)=us.map (Value.int .i64)↔(∀ (j:Nat) (y:Int),us[j]?=some y→c'[j]?=some (.int .i64 y))∨c'.toList.take (n * 1)=us.map (Value.int .i64):=fun c'=>by
   constructor
   .exact .inr
   .rintro (h | h)
    .apply List.ext_getElem?;intro j;rw [List.getElem?_take,Nat.mul_one,List.getElem?_map,Array.getElem?_toList];by_cases hj:j < n
     .rw [if_pos hj];have hju:j < us.length:=by omega
      rw [List.getElem?_eq_getElem hju];exact h j _ (List.getElem?_eq_getElem hju)
     .rw [if_neg hj,List.getElem?_eq_none (by omega)];rfl
    .exact h
  refine ⟨g,cur,rfl,hb,hg,hn2,hul,h0,fun j y hj=>?_,fun v' cur' g' B' hb' h1 h2 h3=>⟨h0,hl,.inr ⟨g',c,cur',rfl,hb',h1,hn2,hm,by rw [h2];exact hs,(hat cur').2 (.inl h3)⟩⟩⟩;have:=congrArg (fun l=>l[j]?) ht;simp only [List.getElem?_take,Nat.mul_one,List.getElem?_map,Array.getElem?_toList] at this;have hjn:j < n:=by have:=(List.getElem?_eq_some_iff.1 hj).1;omega
  rw [if_pos hjn,hj] at this;exact this
set_option maxRecDepth 100000
theorem eval_tmp {a:Act} {t:Nat} {x:Value} (h:a.tmps[t]?=some x):a.eval (.tmp t)=x:=by
 show a.tmps.getD t undef=x;rw [Array.getD_eq_getD_getElem?,h];rfl
theorem put_get {a:Act} {t j:Nat} {x:Value}:(a.put (some t) x).tmps[j]?=if t=j then (if t < a.tmps.size then some x else none) else a.tmps[j]?:=by
 unfold Act.put;show (a.tmps.setIfInBounds t x)[j]?=_;rw [Array.getElem?_setIfInBounds]
theorem put_size {a:Act} {t:Nat} {x:Value}:(a.put (some t) x).tmps.size=a.tmps.size:=by
 unfold Act.put;simp
theorem Sd.put {m c t:Nat} {more:Bool} {us:List Int} {a:Act} {v:World} {x:Value} (h:Sd m c more us a v) (h1:t≠1) (h4:t≠4) (h5:t≠5):Sd m c more us (a.put (some t) x) v:=by
 obtain ⟨k0,k1,k2,k3⟩:=h;refine ⟨by rw [put_size,k0],by rw [put_get,if_neg h1,k1],by rw [put_get,if_neg h5,k2],fun hm=>?_⟩;obtain ⟨q1,q2,g,cp,q3,q4⟩:=k3 hm;exact ⟨q1,q2,g,cp,by rw [put_get,if_neg h4,q3],q4⟩
section
variable {m c:Nat} {rs:List (List Int)} {A:An}
theorem bD:(baseD 88).kind≠.early:=by simp [baseD]
theorem xtmp (t:Nat):XOK (LM m) (.tmp t):=trivial
theorem snd_end:Wk Tryz.prog (LM m) false (SStop Tryz.prog c VI []) A (baseD 88) [botF Tryz.prog] [.code last_r] (Sd m c false []):=by
 simp only [last_r,body_r,Tryz.f88,Option.getD_some];refine Wk.reg (l:=[0,1]) rfl ?_;refine Wk.mv (Ψ:=fun a v=>a.tmps[14]?=some (pz (LM m).bad (.chan (some c)))) (X m) bD rfl (.inl rfl) rfl (d:=some 14) rfl (xtmp 1) (fun a v h=>?_) ?_
 .rw [put_get,if_pos rfl,if_pos (by rw [h.1];decide),eval_tmp h.2.1]
 exact Wk.close rfl rfl rfl (xtmp 14) (fun a v h=>eval_tmp h) Tryz.func88 rfl (by kernel_rfl) (fun a=>by simp [mayWake,G,Frame.at])
def Sd2 (m c:Nat) (us:List Int) (a:Act) (v:World):Prop:=
 Sd m c true us a v∧a.tmps[11]?=some (pz (LM m).bad (.chan (some c)))∧∃ g cp g2 cp2,g≠g2∧a.tmps[4]?=some (.slice (some ⟨g,0,none⟩) us.length cp)∧OwI v 0 (some ⟨g,0,none⟩) us.length cp us ∧
  a.tmps[13]?=some (.slice (some ⟨g2,0,none⟩) us.length cp2)∧OwI v 0 (some ⟨g2,0,none⟩) us.length cp2 us
theorem resend {γ:Bl} {us:List Int} {T U:Array Value} {v w:World} {g cp:Nat} (hT:VsRel (LM m) γ T U) (hW:WRel (LM m) γ v w) (h4:T[4]?=some (.slice (some ⟨g,0,none⟩) us.length cp)) (h1:T[1]?=some (pz (LM m).bad (.chan (some c)))) (h5:T[5]?=some (.bool true))
 (hO:OwI v 0 (some ⟨g,0,none⟩) us.length cp us) (hp:permOk us=true) (hu:0 < us.length) (hz:T.size=15) {x:Nat} (hx:γ g=some x) :
 ∃ T' v',VsRel (LM m) (fun k=>if k=g then some x else none) T' U∧WRel (LM m) (fun k=>if k=g then some x else none) v' w∧Sd m c true us ⟨T',[]⟩ v':=by
 obtain ⟨g',cur,e,_,hg,hc,_,hl,hat,hmk⟩:=hO.blkC hu;cases e;obtain ⟨d,hd,hcd⟩:=hW.row hx hg
 let γ':Bl:=fun k=>if k=g then some x else none
 have hγ:∀ k y,γ' k=some y→k=g∧y=x:=fun k y e=>by
  simp only [γ'] at e;split at e
  .cases e;exact ⟨by assumption,rfl⟩
  .cases e
 have hgg:γ' g=some x:=by simp [γ']
 obtain ⟨v',s1,_,_,_,_,hW',hcell⟩:=rebuild (L:=LM m) (γ:=γ') v w (fun k y e=>by
  obtain ⟨rfl,rfl⟩:=hγ k y e;exact ⟨lt_of_heap hg,d,_,_,hd⟩) (fun k l y e1 e2=>(hγ k y e1).1.trans (hγ l y e2).1.symm) (Nat.zero_le _) (Nat.zero_le _)
 obtain ⟨c',hc1,hc2,hc3⟩:=hcell g x d _ _ hgg hd;obtain ⟨T',hT1,hT2⟩:=exists_wish (L:=LM m) (γ:=γ') T U;refine ⟨T',v',hT1,hW',by show T'.size=15;rw [hT1.1,← hT.1,hz],?_,?_,fun _=>⟨hp,hu,g,cp,?_,hmk v' c' g 0 (Nat.zero_le _) hc1 (by rw [hc2,hcd.1]) fun j y hj=>?_⟩⟩
 .obtain ⟨y,hy,hr⟩:=hT.get h1;have:=pz_inv hr;subst this;exact hT2 1 _ _ h1 hy (.poison ⟨by simp,by simp,by simp⟩)
 .obtain ⟨y,hy,hr⟩:=hT.get h5;cases hr;exact hT2 5 _ _ h5 hy (.bool _)
 .obtain ⟨y,hy,hr⟩:=hT.get h4;obtain ⟨x',rfl,hx',h6,h7⟩:=slice_inv hu hr;rw [hx] at hx';cases hx';refine hT2 4 _ _ h4 hy (.slice _ _ ⟨hgg,rfl,rfl,h6,h7⟩)
 .obtain ⟨y',hy',hr⟩:=hcd.get (hat j y hj);have:=int_inv hr;subst this;exact hc3 j _ _ (by rw [hg];exact hat j y hj) hy' (.int _ _)
theorem sd2_ins {us:List Int}:Ins (Sd2 m c us):=fun a v τ d h=>h
theorem snd_loop:∀ (k:Nat) (us:List Int),muR us≤k→∀ A,Wk Tryz.prog (LM m) false (SStop Tryz.prog c VI (lstR k us)) A (baseD 88) [botF Tryz.prog] [.code loop_r,.inLoop loop_r,.inBlock 0,.code last_r] (Sd m c true us):=by
 have hle:loop_r=.seq first_r round_r:=by simp only [first_r,round_r,loop_r,body_r,Tryz.f88,Option.getD_some]
 have head0:∀ (rs:List (List Int)) (more:Bool) (us:List Int) (A:An) (k0 k1:List Item),exitTo 0 k0=some k1→(more=false→Wk Tryz.prog (LM m) false (SStop Tryz.prog c VI rs) A (baseD 88) [botF Tryz.prog] k1 (Sd m c more us)) →
  (more=true→Wk Tryz.prog (LM m) false (SStop Tryz.prog c VI rs) A (baseD 88) [botF Tryz.prog] (.code round_r :: k0) (Sd m c more us)) →
  Wk Tryz.prog (LM m) false (SStop Tryz.prog c VI rs) A (baseD 88) [botF Tryz.prog] (.code first_r :: .code round_r :: k0) (Sd m c more us):=by
  intro rs more us A k0 k1 hex h1 h2
  generalize round_r=RR at h2 ⊢
  simp only [first_r,loop_r,body_r,Tryz.f88,Option.getD_some];refine Wk.seq (Wk.reg (l:=[0]) rfl ?_);refine Wk.mv (Ψ:=fun a v=>Sd m c more us a v∧a.tmps[8]?=some (.bool more)) (X m) bD rfl (.inl rfl) rfl (d:=some 8) rfl (xtmp 5) (fun a v h=>⟨h.put (by decide) (by decide) (by decide),?_⟩) ?_
  .rw [put_get,if_pos rfl,if_pos (by rw [h.1];decide),eval_tmp h.2.2.1]
  refine Wk.regionEnd (Wk.cond (xtmp 8) (fun a v h=>⟨more,eval_tmp h.2⟩) ?_ ?_)
  .cases more with
   | true=>exact Wk.skip ((h2 rfl).mono fun a v h=>h.1.1)
   | false=>
    intro γ ag a v w O hp;have:=eval_tmp hp.1.2;rw [hp.2] at this;cases this
  .cases more with
   | false=>exact Wk.exit (k':=k1) hex ((h1 rfl).mono fun a v h=>h.1.1)
   | true=>
    intro γ ag a v w O hp;have:=eval_tmp hp.1.2;rw [hp.2] at this;cases this
 have head:∀ (rs:List (List Int)) (more:Bool) (us:List Int) (A:An),(more=false→Wk Tryz.prog (LM m) false (SStop Tryz.prog c VI rs) A (baseD 88) [botF Tryz.prog] [.code last_r] (Sd m c more us)) →
  (more=true→Wk Tryz.prog (LM m) false (SStop Tryz.prog c VI rs) A (baseD 88) [botF Tryz.prog] [.code round_r,.inLoop loop_r,.inBlock 0,.code last_r] (Sd m c more us)) →
  Wk Tryz.prog (LM m) false (SStop Tryz.prog c VI rs) A (baseD 88) [botF Tryz.prog] [.code loop_r,.inLoop loop_r,.inBlock 0,.code last_r] (Sd m c more us):=by
  intro rs more us A h1 h2;have:=Wk.seq (head0 rs more us A [.inLoop loop_r,.inBlock 0,.code last_r] [.code last_r] rfl h1 h2)
  rwa [← hle] at this
 have body:∀ (rs:List (List Int)) (us:List Int),∀ k0,(∀ A,Wk Tryz.prog (LM m) false (SStop Tryz.prog c VI rs) A (baseD 88) [botF Tryz.prog] k0 (Sd m c (nextB us) (nextV us))) →
  ∀ A,Wk Tryz.prog (LM m) false (SStop Tryz.prog c VI (us :: rs)) A (baseD 88) [botF Tryz.prog] (.code round_r :: k0) (Sd m c true us):=by
  intro rs us k0 ih A;simp only [round_r,loop_r,body_r,Tryz.f88,Option.getD_some];refine Wk.seq (Wk.block (Wk.reg (l:=[0,1,2,3]) rfl ?_));refine Wk.mv (Ψ:=fun a v=>Sd m c true us a v∧a.tmps[11]?=some (pz (LM m).bad (.chan (some c)))) (X m) bD rfl (.inl rfl) rfl (d:=some 11) rfl (xtmp 1) (fun a v h=>⟨h.put (by decide) (by decide) (by decide),?_⟩) ?_
  .rw [put_get,if_pos rfl,if_pos (by rw [h.1];decide),eval_tmp h.2.1]
  refine Wk.mv (Ψ:=fun a v=>Sd m c true us a v∧a.tmps[11]?=some (pz (LM m).bad (.chan (some c)))∧a.tmps[12]?=a.tmps[4]?) (X m) bD rfl (.inl rfl) rfl (d:=some 12) rfl (xtmp 4) (fun a v h=>⟨h.1.put (by decide) (by decide) (by decide),?_,?_⟩) ?_
  .rw [put_get,if_neg (by decide),h.2]
  .obtain ⟨_,_,g,cp,h4,_⟩:=h.1.2.2.2 rfl;rw [put_get,if_pos rfl,if_pos (by rw [h.1.1];decide),put_get,if_neg (by decide),eval_tmp h4,h4]
  refine Wk.call (Ψ:=Sd2 m c us) (X m) bD rfl rfl rfl (d:=some 13) rfl (by show fnB _=true;kernel_rfl) (tmpB_ok (by kernel_rfl)) (fun x hx=>by simp at hx;subst hx;exact trivial) (fun a v τ d h=>h) sd2_ins (fun a v h hd=>?_) ?_
  .obtain ⟨hS,h11,h12⟩:=h;obtain ⟨hp,hu,g,cp,h4,hO⟩:=hS.2.2.2 rfl;rw [h4] at h12;have he:(#[Operand.tmp 12].map a.eval)=#[.slice (some ⟨g,0,none⟩) us.length cp]:=by simp [eval_tmp h12]
   rw [he];refine (c_clone hO.ri).mono fun e v' h=>?_;obtain ⟨A2,n2,c2,rfl,hO2,hE⟩:=h;have hn2:us.length=n2:=hO2.len;subst hn2;obtain ⟨g2,cur,rfl,hg2,_⟩:=hO2.blkC hu;have hlt:=(hO.bd g 0 none rfl).2;have hS':Sd m c true us (a.put (some 13) (.slice (some ⟨g2,0,none⟩) us.length c2)) v':=by
    obtain ⟨k0,k1,k2,_⟩:=hS.put (t:=13) (x:=.slice (some ⟨g2,0,none⟩) us.length c2) (by decide) (by decide) (by decide);exact ⟨k0,k1,k2,fun _=>⟨hp,hu,g,cp,by rw [put_get,if_neg (by decide),h4],hO.ext hE⟩⟩
   exact ⟨_,rfl,hS',by rw [put_get,if_neg (by decide),h11],g,cp,g2,c2,by omega,by rw [put_get,if_neg (by decide),h4],hO.ext hE,by rw [put_get,if_pos rfl,if_pos (by rw [hS.1];decide)],hO2.lower (Nat.zero_le _)⟩
  -- the send
  refine Wk.send bD rfl rfl rfl (xtmp 11) (fun a v h=>eval_tmp h.2.1) fun γ ag a v w O hp k2 k3 k4 k5 k6 k7=>?_;obtain ⟨hS,h11,g,cp,g2,cp2,hne,h4,hO,h13,hO2⟩:=hp;obtain ⟨hpm,hu,_⟩:=hS.2.2.2 rfl;obtain ⟨y4,hy4,hr4⟩:=k4.get h4;obtain ⟨x4,rfl,hx4,_⟩:=slice_inv hu hr4;obtain ⟨y13,hy13,hr13⟩:=k4.get h13;obtain ⟨bk,rfl,hbk,_⟩:=slice_inv hu hr13;obtain ⟨g2',cur2,e2,_,hg2,_,_,hl2,hat2,hmk2⟩:=hO2.blkC hu;cases e2;obtain ⟨d2,hd2,hcd2⟩:=k5.row hbk hg2;have hxb:x4≠bk:=fun e=>hne (k5.inj g g2 x4 hx4 (e ▸ hbk));refine ⟨bk,k6 _ _ hbk,⟨cp2,eval_tmp hy13,hu,hmk2 w d2 bk 0 (Nat.zero_le _) hd2 hcd2.1.symm fun j y hj=>?_⟩,fun w2 hr2=>?_⟩
  .obtain ⟨y',hy',hr⟩:=hcd2.get (hat2 j y hj);rw [hy',int_inv hr]
  .obtain ⟨T',v',q1,q2,q3⟩:=resend (c:=c) (w:=w) k4 k5 h4 hS.2.1 hS.2.2.1 hO hpm hu hS.1 hx4;have hn':Named (fun z=>O z∧z≠bk) (fun k=>if k=g then some x4 else none):=fun k z e=>by
    dsimp only at e;split at e
    .cases e;exact ⟨k6 _ _ hx4,hxb⟩
    .cases e
   refine Wk.use (A:=⟨fun z=>O z∧z≠bk,fun k=>if k=g then some x4 else none,v',w2⟩) (Φ:=Sd m c true us) (ag:=⟨T',[]⟩) q3 rfl (by rw [put_defers,k3]) q1 (q2.ry hn' hr2) hn' (Acc.refl _ _ _ _) ?_;refine Wk.regionEnd (Wk.inBlock (Wk.reg (l:=[0,1,2]) rfl ?_));refine Wk.mv (Ψ:=fun a v=>Sd m c true us a v∧a.tmps[9]?=a.tmps[4]?) (X m) bD rfl (.inl rfl) rfl (d:=some 9) rfl (xtmp 4) (fun a v h=>⟨h.put (by decide) (by decide) (by decide),?_⟩) ?_
   .obtain ⟨_,_,g,cp,h4,_⟩:=h.2.2.2 rfl;rw [put_get,if_pos rfl,if_pos (by rw [h.1];decide),put_get,if_neg (by decide),eval_tmp h4,h4]
   refine Wk.call (Ψ:=fun a v=>a.tmps.size=15∧a.tmps[1]?=some (pz (LM m).bad (.chan (some c)))∧a.tmps[10]?=some (.bool (nextB us)) ∧
    (nextB us=true→permOk (nextV us)=true∧0 < (nextV us).length∧∃ g cp,a.tmps[4]?=some (.slice (some ⟨g,0,none⟩) (nextV us).length cp)∧OwI v 0 (some ⟨g,0,none⟩) (nextV us).length cp (nextV us)))
    (X m) bD rfl rfl rfl (d:=some 10) rfl (by show fnB _=true;kernel_rfl) (tmpB_ok (by kernel_rfl)) (fun x hx=>by simp at hx;subst hx;exact trivial) (fun a v τ d h=>h) (fun a v τ d h=>h) (fun a v h hd=>?_) ?_
   .obtain ⟨hS,h9⟩:=h;obtain ⟨hp,hu,g,cp,h4,hO⟩:=hS.2.2.2 rfl;rw [h4] at h9;have he:(#[Operand.tmp 9].map a.eval)=#[.slice (some ⟨g,0,none⟩) us.length cp]:=by simp [eval_tmp h9]
    rw [he];refine (c_nextRank2 rfl hp hO (Nat.zero_le _)).mono fun e v' h=>?_;obtain ⟨rfl,hB,hnx⟩:=h;refine ⟨_,rfl,by rw [put_size,hS.1],by rw [put_get,if_neg (by decide),hS.2.1],by rw [put_get,if_pos rfl,if_pos (by rw [hS.1];decide)],fun hb=>?_⟩;obtain ⟨n1,n2,_⟩:=nextV_up hb;exact ⟨n1,by rw [n2];exact hu,g,cp,by rw [put_get,if_neg (by decide),h4,n2],by rw [n2];exact hnx hb⟩
   refine Wk.mv (Ψ:=Sd m c (nextB us) (nextV us)) (X m) bD rfl (.inr rfl) rfl (d:=some 5) rfl (xtmp 10) (fun a v h=>⟨by rw [put_size,h.1],by rw [put_get,if_neg (by decide),h.2.1],?_,fun hb=>?_⟩) ?_
   .rw [put_get,if_pos rfl,if_pos (by rw [h.1];decide),eval_tmp h.2.2.1]
   .obtain ⟨n1,n2,g,cp,n3,n4⟩:=h.2.2.2 hb;exact ⟨n1,n2,g,cp,by rw [put_get,if_neg (by decide),n3],n4⟩
   exact Wk.regionEnd (ih _)
 have fin:∀ us A,nextB us=false→Wk Tryz.prog (LM m) false (SStop Tryz.prog c VI []) A (baseD 88) [botF Tryz.prog] [.code loop_r,.inLoop loop_r,.inBlock 0,.code last_r] (Sd m c (nextB us) (nextV us)):=fun us A hb=>by
  rw [hb];refine head [] false _ A (fun _=>snd_end.mono fun a v h=>⟨h.1,h.2.1,h.2.2.1,by simp⟩) (fun h=>by cases h)
 intro k
 induction k with
 | zero=>
  intro us hk A;refine head _ true us A (fun h=>by cases h) fun _=>body [] us _ (fun A=>Wk.inLoop (fin us A ?_)) A;cases hb:nextB us with
  | false=>rfl
  | true=>have:=muR_next hb;omega
 | succ k ih=>
  intro us hk A;refine head _ true us A (fun h=>by cases h) fun _=>?_;show Wk Tryz.prog (LM m) false (SStop Tryz.prog c VI (us :: if nextB us=true then lstR k (nextV us) else [])) _ _ _ _ _;refine body _ us _ (fun A=>Wk.inLoop ?_) A;cases hb:nextB us with
  | false=>rw [if_neg (by decide)];have:=fin us A hb;rwa [hb] at this
  | true=>
   rw [if_pos rfl];exact ih (nextV us) (by have:=muR_next hb;omega) A
theorem sender {n:Nat} (hn1:1≤n) (hn8:n≤8) (w:World):Co Tryz.prog false (SStop Tryz.prog c VI (lstR (muR (upI 0 n)) (upI 0 n))) noSet (born Tryz.prog (dcall 88 #[.int .i64 (n:Int),.chan (some c)])) w:=by
 let v:World:={ w with heap:=#[] }
 let γ:Bl:=fun _=>none
 have hW:WRel (LM 0) γ v w:=⟨fun k x e=>(by cases e),fun k l x e=>(by cases e),Nat.zero_le _,Nat.zero_le _⟩;have hn:Named noSet γ:=fun k x e=>by cases e
 have hbody:Tryz.f88.body=some body_r:=rfl;refine Co.one (by rfl) (fun w1=>stepG_born Tryz.func88 (by rfl) hbody w1) ?_;have hle:body_r=.seq (match body_r with | .seq r _=>r | _=>.skip) (.seq (.seq (match body_r with | .seq _ (.seq (.seq r _) _)=>r | _=>.skip) (.block 0 (.loop loop_r))) last_r):=by simp only [loop_r,last_r,body_r,Tryz.f88,Option.getD_some]
 have key:Wk Tryz.prog (LM 0) false (SStop Tryz.prog c VI (lstR (muR (upI 0 n)) (upI 0 n))) ⟨noSet,γ,v,w⟩ (baseD 88) [botF Tryz.prog] [.code body_r] fun a _=>a=⟨#[.int .i64 (n:Int),pz (LM 0).bad (.chan (some c))]++Array.replicate (15 - 2) undef,[]⟩:=by
  rw [hle];have hlp:=snd_loop (m:=0) (c:=c) (muR (upI 0 n)) (upI 0 n) (Nat.le_refl _) ⟨noSet,γ,v,w⟩
  generalize loop_r=LL at hlp ⊢
  generalize last_r=LR at hlp ⊢
  simp only [body_r,Tryz.f88,Option.getD_some];refine Wk.seq (Wk.reg (l:=[0,1,2]) rfl ?_);refine Wk.mv (Ψ:=fun a v=>a.tmps.size=15∧a.tmps[1]?=some (pz (LM 0).bad (.chan (some c)))∧a.tmps[6]?=some (.int .i64 (n:Int))) (X 0) bD rfl (.inl rfl) rfl (d:=some 6) rfl (xtmp 0) (fun a v h=>?_) ?_
  .subst h
   generalize pz (LM 0).bad (.chan (some c))=z
   have e0:(#[Value.int .i64 (n:Int),z]++Array.replicate (15 - 2) undef).size=15:=by simp
   have e1:(#[Value.int .i64 (n:Int),z]++Array.replicate (15 - 2) undef)[1]?=some z:=by rw [Array.getElem?_append_left (by simp)];simp
   have e2:(#[Value.int .i64 (n:Int),z]++Array.replicate (15 - 2) undef)[0]?=some (Value.int .i64 (n:Int)):=by rw [Array.getElem?_append_left (by simp)];simp
   refine ⟨by rw [put_size];exact e0,by rw [put_get,if_neg (by decide)];exact e1,?_⟩;rw [put_get,if_pos rfl,if_pos (by show 6 < (#[Value.int .i64 (n:Int),z]++Array.replicate (15 - 2) undef).size;rw [e0];decide)];exact congrArg some (eval_tmp e2)
  refine Wk.call (Ψ:=fun a v=>a.tmps.size=15∧a.tmps[1]?=some (pz (LM 0).bad (.chan (some c)))∧∃ g cp,a.tmps[7]?=some (.slice (some ⟨g,0,none⟩) (upI 0 n).length cp)∧OwI v 0 (some ⟨g,0,none⟩) (upI 0 n).length cp (upI 0 n))
   (X 0) bD rfl rfl rfl (d:=some 7) rfl (by show fnB _=true;kernel_rfl) (tmpB_ok (by kernel_rfl)) (fun x hx=>by simp at hx;subst hx;exact trivial) (fun a v τ d h=>h) (fun a v τ d h=>h) (fun a v h hd=>?_) ?_
  .have he:(#[Operand.tmp 6].map a.eval)=#[.int .i64 (n:Int)]:=by simp [eval_tmp h.2.2]
   rw [he];refine (c_firstPerm (by omega)).mono fun e v' hh=>?_;obtain ⟨A2,n2,c2,rfl,hO2,hE⟩:=hh;have hn2:(upI 0 n).length=n2:=hO2.len;subst hn2;obtain ⟨g2,cur,rfl,_⟩:=hO2.blkC (by rw [upI_len];omega);exact ⟨_,rfl,by rw [put_size,h.1],by rw [put_get,if_neg (by decide),h.2.1],g2,c2,by rw [put_get,if_pos rfl,if_pos (by rw [h.1];decide)],hO2.lower (Nat.zero_le _)⟩
  refine Wk.mv (Ψ:=fun a v=>a.tmps.size=15∧a.tmps[1]?=some (pz (LM 0).bad (.chan (some c)))∧∃ g cp,a.tmps[4]?=some (.slice (some ⟨g,0,none⟩) (upI 0 n).length cp)∧OwI v 0 (some ⟨g,0,none⟩) (upI 0 n).length cp (upI 0 n))
   (X 0) bD rfl (.inr rfl) rfl (d:=some 4) rfl (xtmp 7) (fun a v h=>?_) ?_
  .obtain ⟨h0,h1,g,cp,h7,hO⟩:=h;exact ⟨by rw [put_size,h0],by rw [put_get,if_neg (by decide),h1],g,cp,by rw [put_get,if_pos rfl,if_pos (by rw [h0];decide),eval_tmp h7],hO⟩
  refine Wk.regionEnd (Wk.seq (Wk.seq (Wk.reg (l:=[0]) rfl ?_)));refine Wk.mv (Ψ:=Sd 0 c true (upI 0 n)) (X 0) bD rfl (.inr rfl) rfl (d:=some 5) rfl (x:=.const (.bool true)) (fun β=>.bool _) (fun a v h=>?_) ?_
  .obtain ⟨h0,h1,g,cp,h4,hO⟩:=h;refine ⟨by rw [put_size,h0],by rw [put_get,if_neg (by decide),h1],by rw [put_get,if_pos rfl,if_pos (by rw [h0];decide)];rfl,fun _=>⟨upI_ok hn8,by rw [upI_len];omega,g,cp,by rw [put_get,if_neg (by decide),h4],hO⟩⟩
  exact Wk.regionEnd (Wk.block (Wk.loop hlp))
 refine key γ ⟨#[.int .i64 (n:Int),pz (LM 0).bad (.chan (some c))]++Array.replicate (15 - 2) undef,[]⟩ _ v w noSet rfl rfl rfl ?_ hW hn (Acc.refl _ _ _ _);exact ((VsRel.one (.int _ _)).push (.poison ⟨by simp,by simp,by simp⟩)).append ⟨rfl,fun i v w h1 h2=>by
  have e1:=Array.mem_of_getElem? h1;have e2:=Array.mem_of_getElem? h2;rw [(Array.mem_replicate.1 e1).2,(Array.mem_replicate.1 e2).2];exact undef_rel⟩
end

