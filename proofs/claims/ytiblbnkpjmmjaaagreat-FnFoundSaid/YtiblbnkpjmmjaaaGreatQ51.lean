/- -/
import Derived.Test.YtiblbnkpjmmjaaaGreatQ50
set_option maxRecDepth 100000
set_option maxHeartbeats 16000000
set_option linter.all false
namespace Go.Proofs.YtiblbnkpjmmjaaaGreat
theorem x0q51 {p:Prop} (h:p:=by rw [HL.out];omega):p:=h
theorem x1q51 {p:Prop} (h:p:=by rw [hxle,show -1 - (-1 - xl)=xl by omega];exact IntWalk.i64_in _ Zo):p:=h
open Go.RowKit
theorem RI.takeV {w:World} {A:Option Addr} {n k:Nat} {xs:List Int} (h:RI w A n xs) (hk:k≤n):RI w A k (xs.take k):=by
 refine ⟨⟨by rw [List.length_take,h.len];omega,by have:=h.le;omega⟩,fun h0=>?_⟩;obtain ⟨b,o,e,hc⟩:=h.2 Zo;refine ⟨b,o,e,fun j x hx=>hc j x ?_⟩;rw [List.getElem?_take] at hx;split at hx
 .exact hx
 .cases hx
theorem RI.dropV {w:World} {b o n k:Nat} {xs:List Int} (h:RI w (some ⟨b,o,none⟩) n xs) (hk:k≤n):RI w (some ⟨b,o+k,none⟩) (n - k) (xs.drop k):=by
 refine ⟨⟨by rw [List.length_drop,h.len],by have:=h.le;omega⟩,fun h0=>?_⟩;obtain ⟨b',o',e,hc⟩:=h.2 Zo;cases e;refine ⟨b,o+k,rfl,fun j x hx=>?_⟩;rw [List.getElem?_drop] at hx;rw [Nat.add_assoc];exact hc _ x hx
def InToV (xs ys:List Int) (x:Int):Prop:=∀ y,y∈ys↔y∈xs∨y=x
theorem InToV.mid {xs:List Int} {x:Int} (k:Nat):InToV xs (xs.take k++[x]++xs.drop k) x:=by
 intro y;rw [List.mem_append,List.mem_append,List.mem_singleton];have h:=List.mem_append (a:=y) (s:=xs.take k) (t:=xs.drop k);rw [List.take_append_drop] at h;rw [h];constructor
 .rintro ((h | h) | h)
  .exact .inl (.inl h)
  .exact .inr h
  .exact .inl (.inr h)
 .rintro ((h | h) | h)
  .exact .inl (.inl h)
  .exact .inr h
  .exact .inl (.inr h)
theorem InToV.there {xs:List Int} {x:Int} (h:x∈xs):InToV xs xs x:=fun y=>⟨.inl,fun h1=>h1.elim id (fun e=>e ▸ h)⟩
def NewToF (w:World) (A0:Option Addr) (xs:List Int) (x:Int) (e:Ending) (w':World):Prop:=∃ (A:Option Addr) (n c:Nat) (ys:List Int),e=.returned (.slice A n c)∧n≤xs.length+1∧(n≤c∧c≤9223372036854775807)∧RI w' A n ys∧InToV xs ys x∧(A=A0∨∀ b o s,A=some ⟨b,o,s⟩→w.heap.size≤b)∧Ext w w'
theorem mq51 {p:Prop} (h:p:=by simp only [intOf];omega):p:=h
theorem c_l1IntoF {A:Option Addr} {n c:Nat} {xs:List Int} {x:Int} {w:World} (h0:RI w A n xs) (hc:n≤c∧c≤9223372036854775807) (hn:n≤1000) :
 Calls Tryz.prog 91 #[.slice A n c,.int .i64 x] w (NewToF w A xs x):=by
 have hl:=h0.len;have HA:=Zh h0;have HL:=Zh hl;obtain ⟨i0,hii,hiz,his,hib⟩:=info_parts int64_info;obtain ⟨hnc,hc63⟩:=hc;clear h0 hl;go_enter Tryz.func91,Tryz.ntmps91;go_wp2;go_loopw [5] (fun i wr=>∃ k:Nat,i=.int .i64 k∧k≤n∧Ext w wr) (fun i _=>n - (intOf i).toNat)
 case atStart=>exact ⟨0,rfl,Nat.zero_le _,Ext.refl _⟩
 case round=>
  obtain ⟨k,rfl,hk,hE⟩:=hrel;have hk0:(0:Int)≤(k:Int):=by omega
  have hkc:(k:Int)≤(c:Int):=by omega
  have hkn:(k:Int)≤(n:Int):=by omega
  by_cases hlt:k < n
  .obtain ⟨b,o,z,rfl,hz,hcz⟩:=RI.at_ (RI.ext HA.out hE) hlt;have hki:(k:Int) < (n:Int):=by omega
   by_cases hzx:z < x
   .go_wp2;go_roundw
    case rel=>exact ⟨k+1,by go_num,Zo,hE⟩
    case measure=>exact mq51
   .by_cases hze:z=x
    .subst hze;have HM:=Zh (InToV.there (List.mem_of_getElem? hz));go_wp2;go_ret;exact ⟨_,n,c,xs,rfl,x0q51,⟨hnc,hc63⟩,RI.ext HA.out hE,HM.out,.inl rfl,hE⟩
    .have hzb:(z == x)=false:=by simpa using hze
     have HT:=Zh (RI.takeV (RI.ext HA.out hE) hk);have HD:=Zh (RI.dropV (RI.ext HA.out hE) hk);have hck:¬ c=k:=by omega
     go_wp2_with fail
     (with_reducible refine (c_l1Copy HT.out).mono ?_);rintro e2 w2 ⟨A2,n2,c2,rfl,hO2,hE2⟩;have hn2:n2=k:=by rw [← hO2.len,HT.out.len]
     subst hn2;have HO2:=Zh hO2;have hsz2:=hE2.size;clear hO2;go_wp2_with (at_builtin;go_loud (refine wpList_append_lies _ rfl (.tmp 37) (.tmp 39) 27 rfl wr.heap.size 2 i0 (.int .i64 0) 1 8 Tryz.underlying27 hii hiz his hib rfl (by decide) _ _ _ rfl (OwI.alloc HO2.out _).2 ⟨w2.heap.size,0,none⟩ 1 1 [.int .i64 x] rfl rfl (one_cells _ _ _) (one_one _) (by decide) (by unfold maxLen;omega) Zo (by go_size) _ rfl ?_))
     intro g cap w3 hown hg hat hltg;have HO3:=Zh (show OwI w3 wr.heap.size (some ⟨g,0,none⟩) (n2+1) cap (xs.take n2++[x]) from ⟨Zo,by simpa using hown⟩);have hob:=OwI.ob2 HO2.out;have hE3:Ext wr w3:=Ext.grown (hE2.alloc _) hg (fun b hb=>(hob b hb).1);clear hown hg hat hob;have hcap3:=HO3.out.cap;go_wp2_with (at_builtin;go_loud (refine wpList_append_ints rfl (.tmp 41) (.tmp 44) 27 rfl i0 Tryz.underlying27 hii hiz his hib (D:=wr.heap.size) rfl HO3.out rfl (RI.ext HD.out hE3) Zo (by have:=hE3.size;omega) hcap3.1 ?_))
     intro A4 c4 w4 hO4 hg4 hat4;have HO4:=Zh hO4;have hob3:=OwI.ob2 HO3.out;have hE4:Ext wr w4:=Ext.grown hE3 hg4 (fun b hb=>(hob3 b hb).1);clear hO4 hg4 hat4 hob3;go_wp2;go_ret;exact ⟨A4,_,c4,_,rfl,x0q51,HO4.out.cap,HO4.out.ri,(by have h:=InToV.mid (xs:=xs) (x:=x) n2;rwa [List.append_assoc,List.singleton_append] at h),.inr (fun b o s e=>by have:=(HO4.out.bd b o s e).1;have:=hE.size;omega),Ext.trans hE hE4⟩
  .have hkn':k=n:=by omega
   subst hkn';have HT:=Zh (RI.ext HA.out hE);have HIN:=Zh (show InToV xs (xs++[x]) x from by
    have h:=InToV.mid (xs:=xs) (x:=x) k
    rwa [List.take_of_length_le (by rw [HL.out];exact Nat.le_refl _),List.drop_of_length_le (by rw [HL.out];exact Nat.le_refl _),List.append_nil] at h)
   go_wp2_with fail
   (with_reducible refine (c_l1Copy HT.out).mono ?_);rintro e2 w2 ⟨A2,n2,c2,rfl,hO2,hE2⟩;have hn2:n2=k:=by rw [← hO2.len,HT.out.len]
   subst hn2;have HO2:=Zh hO2;have hsz2:=hE2.size;clear hO2;go_wp2_with (at_builtin;go_loud (refine wpList_append_lies _ rfl (.tmp 37) (.tmp 39) 27 rfl wr.heap.size 2 i0 (.int .i64 0) 1 8 Tryz.underlying27 hii hiz his hib rfl (by decide) _ _ _ rfl (OwI.alloc HO2.out _).2 ⟨w2.heap.size,0,none⟩ 1 1 [.int .i64 x] rfl rfl (one_cells _ _ _) (one_one _) (by decide) (by unfold maxLen;omega) Zo (by go_size) _ rfl ?_))
   intro g cap w3 hown hg hat hltg;have HO3:=Zh (show OwI w3 wr.heap.size (some ⟨g,0,none⟩) (n2+1) cap (xs++[x]) from ⟨Zo,by simpa using hown⟩);have hob:=OwI.ob2 HO2.out;have hE3:Ext wr w3:=Ext.grown (hE2.alloc _) hg (fun b hb=>(hob b hb).1);clear hown hg hat hob;by_cases hcn:c=n2
   .subst hcn;have hcap3:=HO3.out.cap;go_wp2_with (at_builtin;go_loud (refine wpList_append_ints rfl (.tmp 41) (.tmp 44) 27 rfl i0 Tryz.underlying27 hii hiz his hib (D:=wr.heap.size) rfl HO3.out rfl (RI.nil _ _) Zo (by have:=hE3.size;omega) hcap3.1 ?_))
    intro A4 c4 w4 hO4 hg4 hat4;have HO4:=Zh hO4;have hob3:=OwI.ob2 HO3.out;have hE4:Ext wr w4:=Ext.grown hE3 hg4 (fun b hb=>(hob3 b hb).1);clear hO4 hg4 hat4 hob3;go_wp2;go_ret;exact ⟨A4,_,c4,_,rfl,x0q51,HO4.out.cap,HO4.out.ri,HIN.out,.inr (fun b o s e=>by have:=(HO4.out.bd b o s e).1;have:=hE.size;omega),Ext.trans hE hE4⟩
   .have hlc:n2 < c:=by omega
    cases A with
    | none=>
     have hcap3:=HO3.out.cap;go_wp2_with (at_builtin;go_loud (refine wpList_append_ints rfl (.tmp 41) (.tmp 44) 27 rfl i0 Tryz.underlying27 hii hiz his hib (D:=wr.heap.size) rfl HO3.out rfl (RI.nil _ _) Zo (by have:=hE3.size;omega) hcap3.1 ?_))
     intro A4 c4 w4 hO4 hg4 hat4;have HO4:=Zh hO4;have hob3:=OwI.ob2 HO3.out;have hE4:Ext wr w4:=Ext.grown hE3 hg4 (fun b hb=>(hob3 b hb).1);clear hO4 hg4 hat4 hob3;go_wp2;go_ret;exact ⟨A4,_,c4,_,rfl,x0q51,HO4.out.cap,HO4.out.ri,HIN.out,.inr (fun b o s e=>by have:=(HO4.out.bd b o s e).1;have:=hE.size;omega),Ext.trans hE hE4⟩
    | some p=>
     have hcap3:=HO3.out.cap;go_wp2_with (at_builtin;go_loud (refine wpList_append_ints rfl (.tmp 41) (.tmp 44) 27 rfl i0 Tryz.underlying27 hii hiz his hib (D:=wr.heap.size) rfl HO3.out rfl (RI.nil _ _) Zo (by have:=hE3.size;omega) hcap3.1 ?_))
     intro A4 c4 w4 hO4 hg4 hat4;have HO4:=Zh hO4;have hob3:=OwI.ob2 HO3.out;have hE4:Ext wr w4:=Ext.grown hE3 hg4 (fun b hb=>(hob3 b hb).1);clear hO4 hg4 hat4 hob3;go_wp2;go_ret;exact ⟨A4,_,c4,_,rfl,x0q51,HO4.out.cap,HO4.out.ri,HIN.out,.inr (fun b o s e=>by have:=(HO4.out.bd b o s e).1;have:=hE.size;omega),Ext.trans hE hE4⟩
def VarsTo (t ys:List Int):Prop:=∀ v,v∈ys↔∃ x∈t,x < 0∧v = -1 - x
theorem VarsTo.nil:VarsTo [] []:=fun v=>⟨fun h=>(by cases h),fun ⟨x,h,_⟩=>(by cases h)⟩
theorem VarsTo.var {t ys zs:List Int} {k:Nat} {x:Int} (h:VarsTo (t.take k) ys) (hx:t[k]?=some x) (h0:x < 0) (hi:InToV ys zs (-1 - x)):VarsTo (t.take (k+1)) zs:=fun v=>by
 rw [hi v,h v,take_snoc hx];constructor
 .rintro (⟨y,h1,h2,h3⟩ | rfl)
  .exact ⟨y,List.mem_append_left _ h1,h2,h3⟩
  .exact ⟨x,List.mem_append_right _ (by simp),h0,rfl⟩
 .rintro ⟨y,h1,h2,h3⟩;rcases List.mem_append.1 h1 with h1 | h1
  .exact .inl ⟨y,h1,h2,h3⟩
  .rw [List.mem_singleton.1 h1] at h3;exact .inr h3
theorem VarsTo.sym {t ys:List Int} {k:Nat} {x:Int} (h:VarsTo (t.take k) ys) (hx:t[k]?=some x) (h0:¬ x < 0):VarsTo (t.take (k+1)) ys:=fun v=>by
 rw [h v,take_snoc hx];constructor
 .rintro ⟨y,h1,h2,h3⟩;exact ⟨y,List.mem_append_left _ h1,h2,h3⟩
 .rintro ⟨y,h1,h2,h3⟩;rcases List.mem_append.1 h1 with h1 | h1
  .exact ⟨y,h1,h2,h3⟩
  .rw [List.mem_singleton.1 h1] at h2;exact absurd h2 h0
def NewVs (w:World) (t:List Int) (e:Ending) (w':World):Prop:=∃ (A:Option Addr) (n c:Nat) (ys:List Int),e=.returned (.slice A n c)∧RI w' A n ys∧n≤t.length∧VarsTo t ys∧(∀ b o s,A=some ⟨b,o,s⟩→w.heap.size≤b)∧Ext w w'
theorem c_l2VarsF {A:Option Addr} {n c:Nat} {t:List Int} {w:World} (h0:RI w A n t) (hn:n≤60) (hv:∀ x∈t,-24≤x) :
 Calls Tryz.prog 65 #[.slice A n c] w (NewVs w t):=by
 have HA:=Zh h0;have HL:=Zh h0.len;have HV:=Zh hv;clear h0 hv;go_enter Tryz.func65,Tryz.ntmps65;go_wp2_with fail;go_loopw [3,4] (fun ov kv wr=>∃ k:Nat,kv=.int .i64 k∧k≤n∧(∃ A9 n9 c9,ov=.slice A9 n9 c9∧n9≤k∧(n9≤c9∧c9≤9223372036854775807)∧Hid (∀ b o s,A9=some ⟨b,o,s⟩→w.heap.size≤b)∧Hid (∃ ys,RI wr A9 n9 ys∧VarsTo (t.take k) ys))∧Ext w wr) (fun _ kv _=>n - (intOf kv).toNat)
 case atStart=>exact ⟨0,rfl,Nat.zero_le _,⟨_,0,0,rfl,Nat.le_refl _,Zo,Zh (fun b o s e=>by cases e;exact Nat.le_refl _),Zh ⟨[],RI.nil _ _,VarsTo.nil⟩⟩,extX⟩
 case round=>
  obtain ⟨k,rfl,hk,⟨A9,n9,c9,rfl,hn9,hcap9,hF,hI⟩,hE⟩:=hrel;obtain ⟨ys,hY,hVT⟩:=hI.out;have HY:=Zh hY;have HVT:=Zh hVT;clear hI hY hVT;by_cases hlt:k < n
  .obtain ⟨b,o,x,rfl,hx,hcx⟩:=RI.at_ (RI.ext HA.out hE) hlt;have hx24:=HV.out x (List.mem_of_getElem? hx);have HX:=Zh hx;have hki:(k:Int) < (n:Int):=by omega
   have hk0:(0:Int)≤(k:Int):=by omega
   clear hx;by_cases hx0:x < 0
   .have hw1:IntKind.i64.wrap (-1 - x) = -1 - x:=IntWalk.i64_in _ Zo;have HX0:=Zh hx0;go_wp2_with fail
    (with_reducible refine (c_l1IntoF HY.out hcap9 Zo).mono ?_);rintro e w5 ⟨A5,n5,c5,zs,rfl,hn5,hcap5,hR5,hI5,hF5,hE5⟩;have hyl:=HY.out.len;have HN:=Zh (HVT.out.var HX.out HX0.out hI5);have HF5:=Zh (show ∀ b o s,A5=some ⟨b,o,s⟩→w.heap.size≤b from fun b o s e=>by
     rcases hF5 with h | h
     .rw [h] at e;exact hF.out b o s e
     .have:=h b o s e;have:=hE.size;omega)
    have HR5:=Zh hR5;clear hR5 hI5 hF5;go_wp2_with fail;go_roundw
    case rel=>exact ⟨k+1,by go_num,Zo,⟨_,_,_,rfl,Zo,hcap5,HF5,Zh ⟨zs,HR5.out,HN.out⟩⟩,Ext.trans hE hE5⟩
    case measure=>exact mq51
   .have HN:=Zh (HVT.out.sym HX.out hx0);go_wp2_with fail;go_roundw
    case rel=>exact ⟨k+1,by go_num,Zo,⟨_,_,_,rfl,Zo,hcap9,hF,Zh ⟨ys,HY.out,HN.out⟩⟩,hE⟩
    case measure=>exact mq51
  .obtain rfl:k=n:=by omega
   have HT:=Zh (show t.take k=t from List.take_of_length_le (by have:=HL.out;omega));go_wp2_with fail;go_ret;exact ⟨A9,n9,c9,ys,rfl,HY.out,by have:=HL.out;omega,by rw [← HT.out];exact HVT.out,hF.out,hE⟩
theorem c_VarsOfF {v0:Value} {A:Option Addr} {n c:Nat} {ar t:List Int} {w:World} (h0:RdSig w v0 ar) (h1:RI w A n t) (ht:TermP ar t) :
 Calls Tryz.prog 44 #[v0,.slice A n c] w (NewVs w t):=by
 obtain ⟨D,q,l,rfl,hd⟩:=h0;have HD:=Zh hd;have HT:=Zh h1;have HTP:=Zh (termOk_iff.2 ht);have HV:=Zh ht.2.2.1;have hn:n≤60:=by rw [← h1.len];exact ht.2.1.2
 clear hd h1 ht;go_enter Tryz.func44,Tryz.ntmps44;go_wp2_with fail
 (with_reducible refine (show Calls Tryz.prog 64 #[.agg #[.slice D q l],.slice A n c] _ _ from (c_sTermOk (RdSig.mk (RI.ext HD.out extX)) (RdI.mk (RI.ext HT.out extX))).mono ?_));rintro e w2 ⟨rfl,hE2⟩;rw [HTP.out];have hE02:Ext w w2:=extX;go_wp2_with fail
 (with_reducible refine (c_l2VarsF (RI.ext HT.out hE02) hn HV.out).mono ?_);rintro e w3 ⟨A3,n3,c3,ys,rfl,hR3,hn3,hV3,hF3,hE3⟩;have HR3:=Zh hR3;have HV3:=Zh hV3;have HF3:=Zh hF3;clear hR3 hV3 hF3;go_wp2_with fail;go_ret;exact ⟨A3,n3,c3,ys,rfl,HR3.out,hn3,HV3.out,fun b o s e=>by have:=HF3.out b o s e;have:=hE02.size;omega,Ext.trans hE02 hE3⟩
theorem wp_append_full {P:Program} {w:World} {o:Oper} {a:Act} {K:Act→World→Prop} {Q:Exit→Act→World→Prop} (s x:Operand) (t:TypeId)
 (ho:o.op=.call { callee:=.builtin .append,args:=#[s,x],argTypes:=#[t,t] }) (i:TypeInfo) (ht:P.underlying t=some (.slice 2)) (hi:P.info? 2=some i) (hz:i.zero=some (.int .i64 0))
 (hsize:i.size=1) (hby:i.bytes=8) {n m d g:Nat} {B:Option Addr} {xs ys:List Int} (hs:a.eval s=.slice (some ⟨g,0,none⟩) n n) (ha:RI w (some ⟨g,0,none⟩) n xs) (hx:a.eval x=.slice B m d) (hb:RI w B m ys) (hm:0 < m) (hnm:n+m≤4194304)
 (hK:∀ A' c' w',OwI w' w.heap.size A' (n+m) c' (xs++ys)→Ext w w'→K (a.put o.dst (.slice A' (n+m) c')) w'):o.wp P a w K Q:=by
 obtain ⟨b',q,rfl,hcell⟩:=hb.2 hm;have hle:=hb.le
 obtain ⟨v',w',hrun,r1,r2⟩:=run_append_arg_grows (P:=P) w t o.type 2 i (.int .i64 0) 1 8 ht hi hz hsize hby rfl (by decide) ⟨g,0,none⟩ n n (xs.map (Value.int .i64)) (by rw [List.length_map,ha.len,Nat.mul_one])
  (fun j u hu=>by
   rw [List.getElem?_map] at hu;obtain ⟨y,hy,rfl⟩:=Option.map_eq_some_iff.1 hu;obtain ⟨b2,o2,e2,hc2⟩:=ha.2 (by have:=(List.getElem?_eq_some_iff.1 hy).1;have:=ha.len;omega);cases e2;rw [Addr.add_lit];exact hc2 j y hy) ⟨b',q,none⟩ m d (ys.map (Value.int .i64)) (by rw [List.length_map,hb.len,Nat.mul_one])
  (fun j u hu=>by
   rw [List.getElem?_map] at hu;obtain ⟨y,hy,rfl⟩:=Option.map_eq_some_iff.1 hu;rw [Addr.add_lit];exact hcell j y hy)
  Zo (by unfold maxLen;omega) Zo
 rw [← List.map_append] at r1;obtain ⟨g',cap,rfl,_,_⟩:=World.ownsRow.form r1 Zo;unfold Oper.wp;simp only [execOp,ho,resolve,invoke,builtin,Sem.run_bind,Sem.run_pure,Result.andThen_ok,List.map_toArray,List.map_cons,List.map_nil,hs,hx,hrun];exact hK _ _ _ ⟨hnm,r1⟩ (Ext.grown (Ext.refl w) r2 (fun k hk=>by cases hk))
theorem wpList_append_full {P:Program} {w:World} {ops:Array Oper} {rest:List Oper} {o:Oper} {a:Act} {Q:Exit→Act→World→Prop} (hgd:o.guard=none) (s x:Operand) (t:TypeId)
 (ho:o.op=.call { callee:=.builtin .append,args:=#[s,x],argTypes:=#[t,t] }) (i:TypeInfo) (ht:P.underlying t=some (.slice 2)) (hi:P.info? 2=some i) (hz:i.zero=some (.int .i64 0))
 (hsize:i.size=1) (hby:i.bytes=8) {n m d g:Nat} {B:Option Addr} {xs ys:List Int} (hs:a.eval s=.slice (some ⟨g,0,none⟩) n n) (ha:RI w (some ⟨g,0,none⟩) n xs) (hx:a.eval x=.slice B m d) (hb:RI w B m ys) (hm:0 < m) (hnm:n+m≤4194304)
 (hK:∀ A' c' w',OwI w' w.heap.size A' (n+m) c' (xs++ys)→Ext w w'→wpList P ops Q rest (a.put o.dst (.slice A' (n+m) c')) w'):wpList P ops Q (o :: rest) a w:=
 wpList_plain hgd fun _ hk=>wp_append_full s x t ho i ht hi hz hsize hby hs ha hx hb hm hnm fun A' c' w' h1 h2=>hk _ _ (hK A' c' w' h1 h2)
theorem RI.setOffV {w:World} {A:Option Addr} {n:Nat} {xs:List Int} (h:RI w A n xs) {p:Addr} (v:Value) (hp:∀ b o s,A=some ⟨b,o,s⟩→b≠p.block):RI (w.setCell p v) A n xs:=
 ⟨h.1,fun h0=>by
  obtain ⟨b,o,e,hc⟩:=h.2 h0;refine ⟨b,o,e,fun j x hx=>?_⟩;rw [World.cell?_of_block (w:=w) (w':=w.setCell p v) (a:=⟨b,o+j,none⟩) (Below.heap_setCell _ _ _ _ (hp b o none e))];exact hc j x hx⟩
theorem RI.blt' {w:World} {A:Option Addr} {n:Nat} {xs:List Int} (h:RI w A n xs) (hn:0 < n):∀ b o s,A=some ⟨b,o,s⟩→b < w.heap.size:=fun b o s e=>by
 obtain ⟨_,_,x0,e3,_,hc0⟩:=RI.at_ h hn;rw [e] at e3;cases e3;exact World.block_lt_of_cell? w _ hc0
theorem scan_same {f:Int→Option Nat}:∀ {t t':List Int},t.length=t'.length→(∀ (j:Nat) (x y:Int),t[j]?=some x→t'[j]?=some y→f x=f y)→∀ nd,scan f t nd=scan f t' nd
 | [],[],_,_,nd=>rfl
 | [],_ :: _,h,_,_=>by simp at h
 | _ :: _,[],h,_,_=>by simp at h
 | x :: t,y :: t',h,hf,0=>by rw [scan_zero,scan_zero]
 | x :: t,y :: t',h,hf,nd+1=>by
  have h0:=hf 0 x y rfl rfl;have ih:=scan_same (t:=t) (t':=t') (by simpa using h) (fun j a b e1 e2=>hf (j+1) a b (by simpa using e1) (by simpa using e2));rcases hfx:f x with _ | a
  .rw [scan_cons_none hfx,scan_cons_none (h0 ▸ hfx)]
  .rw [scan_cons_some hfx,scan_cons_some (h0 ▸ hfx),ih]
structure RQ (l r0:List Int) (i:Nat) (q:List Int):Prop where
 len:q.length=r0.length
 ar:∀ (j:Nat) (x y:Int),r0[j]?=some x→q[j]?=some y→arI [2,1,0] x=arI [2,1,0] y
 ge:∀ x∈q,-24≤x
 vs:∀ (j:Nat) (y:Int),j < i→q[j]?=some y→y < 0→y∈l
theorem RQ.start {l r0:List Int} (h:∀ x∈r0,-24≤x):RQ l r0 0 r0:=⟨rfl,fun j x y e1 e2=>by rw [e1] at e2;cases e2;rfl,h,fun j y hj=>Zo⟩
theorem RQ.keep {l r0 q:List Int} {i:Nat} {x:Int} (h:RQ l r0 i q) (hx:q[i]?=some x) (h0:¬ x < 0):RQ l r0 (i+1) q:=⟨h.len,h.ar,h.ge,fun j y hj hy hy0=>by
 rcases Nat.lt_or_ge j i with h1 | h1
 .exact h.vs j y h1 hy hy0
 .obtain rfl:j=i:=by omega
  rw [hx] at hy;cases hy;exact absurd hy0 h0⟩
theorem RQ.put {l r0 q:List Int} {i:Nat} {x z:Int} (h:RQ l r0 i q) (hx:q[i]?=some x) (h0:x < 0) (hz : -24≤z) (ha:arI [2,1,0] z=some 0) (hl:z < 0→z∈l):RQ l r0 (i+1) (q.set i z):=by
 have hil:=(List.getElem?_eq_some_iff.1 hx).1;refine ⟨by rw [List.length_set];exact h.len,fun j a b e1 e2=>?_,fun y hy=>?_,fun j y hj hy hy0=>?_⟩
 .rw [List.getElem?_set] at e2;by_cases e:i=j
  .subst e;rw [if_pos rfl,if_pos hil] at e2;cases e2;rw [h.ar i a x e1 hx,arI_var h0,ha]
  .rw [if_neg e] at e2;exact h.ar j a b e1 e2
 .rcases List.mem_or_eq_of_mem_set hy with hy | hy
  .exact h.ge y hy
  .rw [hy];exact hz
 .rw [List.getElem?_set] at hy;by_cases e:i=j
  .subst e;rw [if_pos rfl,if_pos hil] at hy;cases hy;exact hl hy0
  .rw [if_neg e] at hy;exact h.vs j y Zo hy hy0
theorem RQ.done {l r0 q:List Int} {i:Nat} (h:RQ l r0 i q) (hr:TermP [2,1,0] r0) (hi:r0.length≤i):TermP [2,1,0] q∧∀ x∈q,x < 0→x∈l:=by
 refine ⟨⟨hr.1,by rw [h.len];exact hr.2.1,h.ge,?_⟩,fun x hx hx0=>?_⟩
 .rw [h.len,← hr.2.2.2];exact (scan_same h.len.symm h.ar 1).symm
 .obtain ⟨j,hj,e⟩:=List.mem_iff_getElem.1 hx;exact h.vs j x (by have:=h.len;omega) (by rw [List.getElem?_eq_getElem hj,e]) hx0
def NewRg (w:World) (g:Nat) (e:Ending) (w':World):Prop:=∃ (A:Option Addr) (n c:Nat) (A':Option Addr) (n' c':Nat) (r:Ru),e=.returned (.agg #[.slice A n c,.slice A' n' c'])∧OwI w' w.heap.size A n c r.l∧OwI w' w.heap.size A' n' c' r.r∧RuleP [2,1,0] r∧(r.l.length≤15∧r.r.length≤7)∧Dice w' g∧Only w w' g
theorem c_w9Rule {g:Nat} {w:World} (h0:Dice w g):Calls Tryz.prog 18 #[.pointer (some ⟨g,0,none⟩)] w (NewRg w g):=by
 have HD:=Zh h0;have hgl:=h0.lt;obtain ⟨i0,hii,hiz,his,hib⟩:=info_parts int64_info;clear h0;go_enter Tryz.func18,Tryz.ntmps18;go_wp2_with fail;obtain ⟨w1,hw1⟩:∃ w1,w1=w.alloc (.cells #[.slice none 0 0,.slice none 0 0] 54):=⟨_,rfl⟩;have hrb1:w1.heap[w.heap.size]?=some (.cells #[.slice none 0 0,.slice none 0 0] 54 (0,0)):=by rw [hw1];exact heap_alloc_new w _
 have hE1:Ext w w1:=by rw [hw1];exact extX
 have hz1:w1.heap.size=w.heap.size+1:=by rw [hw1];simp [go_sem]
 rw [← hw1,← hz1];have hz1':w.heap.size < w1.heap.size:=by omega
 clear hw1 hz1;have HF1:=Zh (OwI.fresh (w:=w1) [1] (by simp));have hE1a:Ext w1 (w1.alloc (.cells #[.int .i64 1] 2)):=(Ext.refl w1).alloc _
 (with_reducible refine (c_w9Term (g:=g) (vars:=2) Zo Zo 1 Zo 2 Zo (HD.out.ext (Ext.trans hE1 hE1a))).mono ?_);rintro e w2 ⟨A2,n2,c2,u,rfl,hO2,oku,gu,hn2,hD2,hOn2⟩;have HF2:=Zh (HF1.out.only hOn2 Zo);have HU2:=Zh hO2.ri;have hl2:=hO2.len;have HLU:=Zh hl2;have HOU:=Zh oku;have HGU:=Zh gu;have hnu:1≤n2∧n2≤3:=⟨by rw [← hl2];exact flat_pos u,hn2⟩;have hOw2:Only w w2 g:=(Only.of_ext (Ext.trans hE1 hE1a) g).trans hOn2;have hsz2:=hOn2.size;have hrb2:=(hOn2.block w.heap.size (by simp;omega) (fun e=>by cases e;omega)).trans ((hE1a.block w.heap.size hz1').trans hrb1);simp only [World.size_alloc] at hsz2;clear hO2 hl2 oku gu hn2 hOn2;go_wp2_with (at_builtin;go_loud (refine wpList_append_full rfl (.tmp 7) (.tmp 9) 27 rfl i0 Tryz.underlying27 hii hiz his hib rfl HF2.out.ri rfl HU2.out Zo Zo ?_))
 intro A3 c3 w3 hO3 hE3;have HD3:=Zh (hD2.ext hE3);have hOw3:=hOw2.trans (Only.of_ext hE3 g);have hrb3:=(hE3.block w.heap.size Zo).trans hrb2;have hsz3:=hE3.size;have HO3:=Zh (hO3.lower (B':=w1.heap.size) Zo);clear hO3 HF1 HF2 HU2 hD2;go_wp2_with fail
 (with_reducible refine (c_below HD3.out Zo Zo).mono ?_);rintro e w4 ⟨x,rfl,hx,hD4,hO4⟩;have hsz4:=hO4.size;have HO4:=Zh (HO3.out.only hO4 Zo);have hrb4:=(hO4.block w.heap.size Zo (fun e=>by cases e;omega)).trans hrb3;have hOw4:=hOw3.trans hO4;have HD4:=Zh hD4;clear hD4 hO4 HO3 HD3 hrb2 hrb3 hrb1;have HTL1:∃ L:List Int,L=[1]++u.flat∧TermP [2,1,0] L∧(∀ x,L[0]?=some x→0≤x):=⟨_,rfl,by
  have h1:([1]++u.flat)=(Tm.node 1 [u]).flat:=by rw [flat_node,flatL_cons,flatL_nil,List.append_nil];rfl
  rw [h1];refine termP_flat sigR3 (Ok_node.2 ⟨rfl,OkL_cons.2 ⟨HOU.out,by simp [OkL]⟩⟩) ?_ ?_
  .rw [← h1];simp [HLU.out];omega
  .rw [← h1];intro z hz;rcases List.mem_append.1 hz with hz | hz
   .rw [List.mem_singleton.1 hz];omega
   .have:=HGU.out z hz;omega,fun x hx=>by simp at hx;omega⟩
 by_cases hx0:x=0
 .subst hx0;go_wp2_with fail;have HF5:=Zh (OwI.fresh (w:=w4) [0] (by simp));have hE5a:Ext w4 (w4.alloc (.cells #[.int .i64 0] 2)):=(Ext.refl w4).alloc _
  (with_reducible refine (c_w9Term (g:=g) (vars:=2) Zo Zo 1 Zo 2 Zo (HD4.out.ext hE5a)).mono ?_);rintro e w5 ⟨A5,n5,c5,u1,rfl,hO5,ok1,g1,hn5,hD5,hOn5⟩;have HF6:=Zh (HF5.out.only hOn5 Zo);have HU5:=Zh hO5.ri;have hl5:=hO5.len;have hn5':1≤n5∧n5≤3:=⟨by rw [← hl5];exact flat_pos u1,hn5⟩;have hsz5:=hOn5.size;simp only [World.size_alloc] at hsz5;have hrb5:=(hOn5.block w.heap.size (by simp;omega) (fun e=>by cases e;omega)).trans ((hE5a.block w.heap.size Zo).trans hrb4);have hOw5:=(hOw4.trans (Only.of_ext hE5a g)).trans hOn5;have HL5:=Zh hl5;have HOK1:=Zh ok1;have HG1:=Zh g1;clear hO5 hl5 ok1 g1 hn5 hOn5;go_wp2_with (at_builtin;go_loud (refine wpList_append_full rfl (.tmp 14) (.tmp 16) 27 rfl i0 Tryz.underlying27 hii hiz his hib rfl HF6.out.ri rfl HU5.out Zo Zo ?_))
  intro A6 c6 w6 hO6 hE6;have HO6:=Zh (hO6.lower (B':=w1.heap.size) Zo);have hsz6:=hE6.size;have hrb6:=(hE6.block w.heap.size Zo).trans hrb5;have hOw6:=hOw5.trans (Only.of_ext hE6 g);have HD6:=Zh (hD5.ext hE6);clear hO6 hD5;go_wp2_with fail
  (with_reducible refine (c_w9Term (g:=g) (vars:=2) Zo Zo 0 Zo 1 Zo HD6.out).mono ?_);rintro e w7 ⟨A7,n7,c7,u2,rfl,hO7,ok2,g2,hn7,hD7,hOn7⟩;have HU7:=Zh hO7.ri;have hl7:=hO7.len;have hn7':1≤n7∧n7≤1:=⟨by rw [← hl7];exact flat_pos u2,hn7⟩;have hsz7:=hOn7.size;have HO7:=Zh (HO6.out.only hOn7 Zo);have hcp7:=HO7.out.cap;have hrb7:=(hOn7.block w.heap.size Zo (fun e=>by cases e;omega)).trans hrb6;have hOw7:=hOw6.trans hOn7;have HL7:=Zh hl7;have HOK2:=Zh ok2;have HG2:=Zh g2;clear hO7 hl7 ok2 g2 hn7 hOn7;go_wp2_with (at_builtin;go_loud (refine wpList_append_ints rfl (.tmp 17) (.tmp 19) 27 rfl i0 Tryz.underlying27 hii hiz his hib (D:=w1.heap.size) rfl HO7.out rfl HU7.out Zo Zo hcp7.1 ?_))
  intro LA lc w8 hO8 hg8 hat8;have hob8:=OwI.ob2 HO7.out;have HD8:=Zh (Dice.grown hD7 hg8 (fun b hb=>by have:=(hob8 b hb).1;omega));have hOw8:=Only.grown hOw7 hg8 (fun b hb=>by have:=(hob8 b hb).1;omega);have hrb8:=(hg8.block w.heap.size Zo (fun e=>by have:=(hob8 _ e.symm).1;omega)).trans hrb7;have hsz8:=hg8.size;obtain ⟨ln,hln⟩:∃ ln,ln=1+n5+n7:=⟨_,rfl⟩;obtain ⟨L,hL,hTL,hHL⟩:∃ L:List Int,L=[0]++u1.flat++u2.flat∧TermP [2,1,0] L∧(∀ x,L[0]?=some x→0≤x):=⟨_,rfl,by
   have h1:([0]++u1.flat++u2.flat)=(Tm.node 0 [u1,u2]).flat:=by rw [flat_node,flatL_cons,flatL_cons,flatL_nil,List.append_nil];rfl
   rw [h1];refine termP_flat sigR3 (Ok_node.2 ⟨rfl,OkL_cons.2 ⟨HOK1.out,OkL_cons.2 ⟨HOK2.out,by simp [OkL]⟩⟩⟩) ?_ ?_
   .rw [← h1];simp [HL5.out,HL7.out];omega
   .rw [← h1];intro z hz;rcases List.mem_append.1 hz with hz | hz
    .rcases List.mem_append.1 hz with hz | hz
     .rw [List.mem_singleton.1 hz];omega
     .have:=HG1.out z hz;omega
    .have:=HG2.out z hz;omega,fun x hx=>by simp at hx;omega⟩
  have HOL:=Zh (show OwI w8 w1.heap.size LA ln lc L by rw [hln,hL];exact hO8);have hln5:ln≤7:=by omega
  have HTL:=Zh hTL;have HHL:=Zh hHL;clear hO8 hg8 hat8 hob8 hL hTL hHL hD7 HTL1 HD4 HO4 HD6 HO6 HO7 HF5 HF6 HU5 HU7;go_wp2_with fail;rw [← hln];clear hln
  (with_reducible refine (c_w9Sig).mono ?_);rintro e w9 ⟨AS,nS,cS,rfl,hO9,hE9⟩;have HS9:=Zh hO9.ri;have HOL9:=Zh (HOL.out.ext hE9);have HD9:=Zh (HD8.out.ext hE9);have hOw9:=hOw8.trans (Only.of_ext hE9 g);have hsz9:=hE9.size;have hrb9:=(hE9.block w.heap.size Zo).trans hrb8;clear hO9;go_wp2_with fail
  (with_reducible refine (c_VarsOfF (RdSig.mk HS9.out) HOL9.out.ri HTL.out).mono ?_);rintro e w10 ⟨VA,vn,vc,ys,rfl,hR10,hn10,hV10,hF10,hE10⟩;have HV10:=Zh (show RIg w10 g VA vn ys from ⟨hR10,fun b o s e=>by have:=hF10 b o s e;omega⟩);have HVT:=Zh hV10;have HOL10:=Zh (HOL9.out.ext hE10);have HD10:=Zh (HD9.out.ext hE10);have hOw10:=hOw9.trans (Only.of_ext hE10 g);have hsz10:=hE10.size;have hrb10:=(hE10.block w.heap.size Zo).trans hrb9;have hvn60:vn≤60:=by have:=HTL.out.2.1.2;omega
  have HVB:=Zh (show 0 < vn→∀ b o s,VA=some ⟨b,o,s⟩→b < w10.heap.size from fun h b o s e=>RI.blt' hR10 h b o s e);clear hR10 hn10 hV10 hF10;go_wp2_with fail
  (with_reducible refine (c_w9Term (g:=g) (vars:=2) Zo Zo 2 Zo 3 Zo HD10.out).mono ?_);rintro e w11 ⟨RA,rn,rc,v,rfl,hO11,okv,gv,hn11,hD11,hOn11⟩;have hl11:=hO11.len;have hrn7:rn≤7:=hn11;have HR0:=Zh (tm3 (d:=2) (vars:=2) Zo Zo okv (by rw [hl11];exact hn11) gv);have HRQ:=Zh (RQ.start (l:=L) (show ∀ x∈v.flat,-24≤x from fun x hx=>by have:=gv x hx;omega));have HO11:=Zh hO11;have HL11:=Zh hl11;have HV11:=Zh (HV10.out.only hOn11);have HOL11:=Zh (HOL10.out.only hOn11 Zo);have HLB:=Zh (show ∀ b o s,LA=some ⟨b,o,s⟩→b < w10.heap.size from fun b o s e=>(HOL10.out.bd b o s e).2);have hOw11:=hOw10.trans hOn11;have hsz11:=hOn11.size;have hrb11:=(hOn11.block w.heap.size Zo (fun e=>by cases e;omega)).trans hrb10;have HD11:=Zh hD11;clear hO11 okv gv hn11 hD11 hOn11 hl11;go_wp2_with fail;go_loopw [6] (fun iv wr=>∃ i:Nat,iv=.int .i64 i∧i≤rn∧Hid (∃ q,OwI wr w10.heap.size RA rn rc q∧RQ L v.flat i q)∧Hid (Dice wr g∧Only w wr g∧OwI wr w1.heap.size LA ln lc L∧RIg wr g VA vn ys∧wr.heap[w.heap.size]?=some (.cells #[.slice none 0 0,.slice none 0 0] 54 (0,0))∧w10.heap.size≤wr.heap.size)) (fun iv _=>rn - (intOf iv).toNat)
  case atStart=>exact ⟨0,rfl,Nat.zero_le _,Zh ⟨_,HO11.out,HRQ.out⟩,Zh ⟨HD11.out,hOw11,HOL11.out,HV11.out,hrb11,hsz11⟩⟩
  case round=>
   obtain ⟨i,rfl,hi,hI,hJ⟩:=hrel;obtain ⟨q,hq,hQ⟩:=hI.out;obtain ⟨hDr,hOr,hLr,hVr,hrbr,hszr⟩:=hJ.out;have HQ:=Zh hQ;have HDR:=Zh hDr;have HOR:=Zh hOr;have HLR:=Zh hLr;have HVR:=Zh hVr;have HBR:=Zh hrbr;have HQO:=Zh hq;clear hI hJ hQ hDr hOr hLr hVr hrbr hq;by_cases hlt:i < rn
   .obtain ⟨g6,rfl,hg6,hg6l⟩:∃ b,RA=some ⟨b,0,none⟩∧w10.heap.size≤b∧b < wr.heap.size:=by
     rcases HQO.out.form with ⟨_,h,_⟩ | h
     .omega
     .exact h
    obtain ⟨y,hy,hcy,hfy⟩:=OwI.at_ HQO.out hlt;have hii':(i:Int) < (rn:Int):=by omega
    have hi0:(0:Int)≤(i:Int):=by omega
    have HY:=Zh hy;clear hy
    have hset:∀ (wz:World) (z:Int),Dice wz g→Only w wz g→OwI wz w1.heap.size LA ln lc L→RIg wz g VA vn ys→wz.heap[w.heap.size]?=some (.cells #[.slice none 0 0,.slice none 0 0] 54 (0,0))→w10.heap.size≤wz.heap.size →
     Dice (wz.setCell ⟨g6,i,none⟩ (.int .i64 z)) g∧Only w (wz.setCell ⟨g6,i,none⟩ (.int .i64 z)) g∧OwI (wz.setCell ⟨g6,i,none⟩ (.int .i64 z)) w1.heap.size LA ln lc L∧RIg (wz.setCell ⟨g6,i,none⟩ (.int .i64 z)) g VA vn ys∧(wz.setCell ⟨g6,i,none⟩ (.int .i64 z)).heap[w.heap.size]?=some (.cells #[.slice none 0 0,.slice none 0 0] 54 (0,0))∧w10.heap.size≤(wz.setCell ⟨g6,i,none⟩ (.int .i64 z)).heap.size  :=fun wz z k1 k2 k3 k4 k5 k6=>
     ⟨k1.below (Below.setCell (Below.refl _ _) (by show g+1≤g6;omega) _),k2.grown (Only.setCell _ _ _ _) (fun b e=>by cases e;omega),k3.setFar _ (fun b o s e=>by have:=HLB.out b o s e;show b≠g6;omega),
      ⟨by
       rcases Nat.eq_zero_or_pos vn with h | h
       .obtain ⟨⟨h1,h2⟩,h3⟩:=k4.1;exact ⟨⟨h1,h2⟩,fun h4=>Zo⟩
       .exact RI.setOffV k4.1 _ (fun b o s e=>by have:=HVB.out h b o s e;show b≠g6;omega),k4.2⟩,
      by rw [Below.heap_setCell _ _ _ _ (show w.heap.size≠g6 by omega)];exact k5,by simpa using k6⟩
    have HSET:=Zh hset;clear hset;by_cases hy0:y < 0
    .by_cases hv0:vn=0
     .have hvi:((vn:Int) == 0)=true:=by simpa using hv0
      have HN:=Zh (HQ.out.put (z:=2) HY.out hy0 Zo (by decide) (fun h=>Zo));have HSO:=Zh (OwI.set HQO.out i 2);have HS2:=Zh (HSET.out _ 2 HDR.out HOR.out HLR.out HVR.out HBR.out hszr);subst hv0;go_wp2_with fail;go_roundw
      case rel=>exact ⟨i+1,by go_num,Zo,Zh ⟨_,HSO.out,HN.out⟩,HS2⟩
      case measure=>exact mq51
     .have hvi:((vn:Int) == 0)=false:=by simpa using hv0
      have hv1:1≤(vn:Int):=by omega
      go_wp2_with fail
      (with_reducible refine (c_below HDR.out hv1 Zo).mono ?_);rintro e w12 ⟨x2,rfl,hx2,hD12,hO12⟩;obtain ⟨z,rfl⟩:=Int.eq_ofNat_of_zero_le hx2.1;have hz:z < vn:=by omega
      have HV12:=Zh (HVR.out.only hO12);obtain ⟨vb,vo,yv,rfl,hyv,hcv⟩:=RI.at_ HV12.out.1 hz;have hyv2:=(HVT.out yv).1 (List.mem_of_getElem? hyv);obtain ⟨xl,hxl,hxl0,hxle⟩:=hyv2;have hxl24:=HTL.out.2.2.1 xl hxl;have hwy:IntKind.i64.wrap (-1 - yv)=xl:=x1q51;have HQ12:=Zh (HQO.out.only hO12 Zo);have HN:=Zh (HQ.out.put (z:=xl) HY.out hy0 hxl24 (arI_var hxl0) (fun _=>hxl));have HSO:=Zh (OwI.set HQ12.out i xl);obtain ⟨y',hy',hcy',hfy'⟩:=OwI.at_ HQ12.out hlt;have hsz12:=hO12.size;have HS2:=Zh (HSET.out _ xl hD12 (HOR.out.trans hO12) (HLR.out.only hO12 Zo) HV12.out ((hO12.block w.heap.size Zo (fun e=>by cases e;omega)).trans HBR.out) Zo);clear hyv hxl hxle hD12 hO12 hy';go_wp2_with fail;go_roundw
      case rel=>exact ⟨i+1,by go_num,Zo,Zh ⟨_,HSO.out,HN.out⟩,HS2⟩
      case measure=>exact mq51
    .have HN:=Zh (HQ.out.keep HY.out hy0);go_wp2_with fail;go_roundw
     case rel=>exact ⟨i+1,by go_num,Zo,Zh ⟨_,HQO.out,HN.out⟩,Zh ⟨HDR.out,HOR.out,HLR.out,HVR.out,HBR.out,hszr⟩⟩
     case measure=>exact mq51
   .obtain rfl:i=rn:=by omega
    have HDN:=Zh (HQ.out.done HR0.out (by have:=HL11.out;omega));have hrc:∀ j:Nat,wr.cell? ⟨w.heap.size,j,none⟩=#[Value.slice none 0 0,.slice none 0 0][j]?:=fun j=>cell_of_row wr _ _ _ _ (0,0) HBR.out;have hr0:wr.cell? ⟨w.heap.size,0,none⟩=some (.slice none 0 0):=hrc 0;have hr1:wr.cell? ⟨w.heap.size,1,none⟩=some (.slice none 0 0):=hrc 1;have hrf:∀ j,wr.frozen? ⟨w.heap.size,j,none⟩=false:=fun j=>frozen_of_row wr _ _ _ _ HBR.out;have hql:=HQO.out.len;have hll:=HLR.out.len;clear hrc;go_wp2_with fail;refine bodyPost_ret (v:=.agg #[.slice LA ln lc,.slice RA i rc]) (by simp [results,Tryz.results18,go_sem,hr0,hr1,hrf]) rfl ?_;refine ⟨LA,ln,lc,RA,i,rc,⟨L,q⟩,rfl,?_,?_,⟨HTL.out,HDN.out.1,HHL.out,HDN.out.2⟩,⟨by show L.length≤15;omega,by show q.length≤7;omega⟩,?_,?_⟩
    .exact ((HLR.out.setFar _ (fun b o s e=>by have:=(HLR.out.bd b o s e).1;show b≠w.heap.size;omega)).setFar _ (fun b o s e=>by have:=(HLR.out.bd b o s e).1;show b≠w.heap.size;omega)).lower Zo
    .exact ((HQO.out.setFar _ (fun b o s e=>by have:=(HQO.out.bd b o s e).1;show b≠w.heap.size;omega)).setFar _ (fun b o s e=>by have:=(HQO.out.bd b o s e).1;show b≠w.heap.size;omega)).lower Zo
    .exact HDR.out.below (Below.setCell (Below.setCell (Below.refl _ _) (by show g+1≤w.heap.size;omega) _) (by show g+1≤w.heap.size;omega) _)
    .exact (HOR.out.grown (Only.setCell _ _ _ _) (fun b e=>by cases e;exact Nat.le_refl _)).grown (Only.setCell _ _ _ _) (fun b e=>by cases e;exact Nat.le_refl _)
 .have hxb:(x == 0)=false:=by simpa using hx0
  obtain ⟨L,hL,hTL,hHL⟩:=HTL1;obtain ⟨w8,rfl⟩:∃ w8,w8=w4:=⟨_,rfl⟩;obtain ⟨LA,rfl⟩:∃ LA,LA=A3:=⟨_,rfl⟩;obtain ⟨lc,rfl⟩:∃ lc,lc=c3:=⟨_,rfl⟩;obtain ⟨ln,hln⟩:∃ ln,ln=1+n2:=⟨_,rfl⟩;have HOL:=Zh (show OwI w8 w1.heap.size LA ln lc L by rw [hln,hL];exact HO4.out);have HD8:=HD4;have hOw8:=hOw4;have hrb8:=hrb4;have hln5:ln≤7:=by omega
  have HTL:=Zh hTL;have HHL:=Zh hHL;clear hL hTL hHL HD4 HO4;go_wp2_with fail;rw [← hln];clear hln
  (with_reducible refine (c_w9Sig).mono ?_);rintro e w9 ⟨AS,nS,cS,rfl,hO9,hE9⟩;have HS9:=Zh hO9.ri;have HOL9:=Zh (HOL.out.ext hE9);have HD9:=Zh (HD8.out.ext hE9);have hOw9:=hOw8.trans (Only.of_ext hE9 g);have hsz9:=hE9.size;have hrb9:=(hE9.block w.heap.size Zo).trans hrb8;clear hO9;go_wp2_with fail
  (with_reducible refine (c_VarsOfF (RdSig.mk HS9.out) HOL9.out.ri HTL.out).mono ?_);rintro e w10 ⟨VA,vn,vc,ys,rfl,hR10,hn10,hV10,hF10,hE10⟩;have HV10:=Zh (show RIg w10 g VA vn ys from ⟨hR10,fun b o s e=>by have:=hF10 b o s e;omega⟩);have HVT:=Zh hV10;have HOL10:=Zh (HOL9.out.ext hE10);have HD10:=Zh (HD9.out.ext hE10);have hOw10:=hOw9.trans (Only.of_ext hE10 g);have hsz10:=hE10.size;have hrb10:=(hE10.block w.heap.size Zo).trans hrb9;have hvn60:vn≤60:=by have:=HTL.out.2.1.2;omega
  have HVB:=Zh (show 0 < vn→∀ b o s,VA=some ⟨b,o,s⟩→b < w10.heap.size from fun h b o s e=>RI.blt' hR10 h b o s e);clear hR10 hn10 hV10 hF10;go_wp2_with fail
  (with_reducible refine (c_w9Term (g:=g) (vars:=2) Zo Zo 2 Zo 3 Zo HD10.out).mono ?_);rintro e w11 ⟨RA,rn,rc,v,rfl,hO11,okv,gv,hn11,hD11,hOn11⟩;have hl11:=hO11.len;have hrn7:rn≤7:=hn11;have HR0:=Zh (tm3 (d:=2) (vars:=2) Zo Zo okv (by rw [hl11];exact hn11) gv);have HRQ:=Zh (RQ.start (l:=L) (show ∀ x∈v.flat,-24≤x from fun x hx=>by have:=gv x hx;omega));have HO11:=Zh hO11;have HL11:=Zh hl11;have HV11:=Zh (HV10.out.only hOn11);have HOL11:=Zh (HOL10.out.only hOn11 Zo);have HLB:=Zh (show ∀ b o s,LA=some ⟨b,o,s⟩→b < w10.heap.size from fun b o s e=>(HOL10.out.bd b o s e).2);have hOw11:=hOw10.trans hOn11;have hsz11:=hOn11.size;have hrb11:=(hOn11.block w.heap.size Zo (fun e=>by cases e;omega)).trans hrb10;have HD11:=Zh hD11;clear hO11 okv gv hn11 hD11 hOn11 hl11;go_wp2_with fail;go_loopw [6] (fun iv wr=>∃ i:Nat,iv=.int .i64 i∧i≤rn∧Hid (∃ q,OwI wr w10.heap.size RA rn rc q∧RQ L v.flat i q)∧Hid (Dice wr g∧Only w wr g∧OwI wr w1.heap.size LA ln lc L∧RIg wr g VA vn ys∧wr.heap[w.heap.size]?=some (.cells #[.slice none 0 0,.slice none 0 0] 54 (0,0))∧w10.heap.size≤wr.heap.size)) (fun iv _=>rn - (intOf iv).toNat)
  case atStart=>exact ⟨0,rfl,Nat.zero_le _,Zh ⟨_,HO11.out,HRQ.out⟩,Zh ⟨HD11.out,hOw11,HOL11.out,HV11.out,hrb11,hsz11⟩⟩
  case round=>
   obtain ⟨i,rfl,hi,hI,hJ⟩:=hrel;obtain ⟨q,hq,hQ⟩:=hI.out;obtain ⟨hDr,hOr,hLr,hVr,hrbr,hszr⟩:=hJ.out;have HQ:=Zh hQ;have HDR:=Zh hDr;have HOR:=Zh hOr;have HLR:=Zh hLr;have HVR:=Zh hVr;have HBR:=Zh hrbr;have HQO:=Zh hq;clear hI hJ hQ hDr hOr hLr hVr hrbr hq;by_cases hlt:i < rn
   .obtain ⟨g6,rfl,hg6,hg6l⟩:∃ b,RA=some ⟨b,0,none⟩∧w10.heap.size≤b∧b < wr.heap.size:=by
     rcases HQO.out.form with ⟨_,h,_⟩ | h
     .omega
     .exact h
    obtain ⟨y,hy,hcy,hfy⟩:=OwI.at_ HQO.out hlt;have hii':(i:Int) < (rn:Int):=by omega
    have hi0:(0:Int)≤(i:Int):=by omega
    have HY:=Zh hy;clear hy
    have hset:∀ (wz:World) (z:Int),Dice wz g→Only w wz g→OwI wz w1.heap.size LA ln lc L→RIg wz g VA vn ys→wz.heap[w.heap.size]?=some (.cells #[.slice none 0 0,.slice none 0 0] 54 (0,0))→w10.heap.size≤wz.heap.size →
     Dice (wz.setCell ⟨g6,i,none⟩ (.int .i64 z)) g∧Only w (wz.setCell ⟨g6,i,none⟩ (.int .i64 z)) g∧OwI (wz.setCell ⟨g6,i,none⟩ (.int .i64 z)) w1.heap.size LA ln lc L∧RIg (wz.setCell ⟨g6,i,none⟩ (.int .i64 z)) g VA vn ys∧(wz.setCell ⟨g6,i,none⟩ (.int .i64 z)).heap[w.heap.size]?=some (.cells #[.slice none 0 0,.slice none 0 0] 54 (0,0))∧w10.heap.size≤(wz.setCell ⟨g6,i,none⟩ (.int .i64 z)).heap.size  :=fun wz z k1 k2 k3 k4 k5 k6=>
     ⟨k1.below (Below.setCell (Below.refl _ _) (by show g+1≤g6;omega) _),k2.grown (Only.setCell _ _ _ _) (fun b e=>by cases e;omega),k3.setFar _ (fun b o s e=>by have:=HLB.out b o s e;show b≠g6;omega),
      ⟨by
       rcases Nat.eq_zero_or_pos vn with h | h
       .obtain ⟨⟨h1,h2⟩,h3⟩:=k4.1;exact ⟨⟨h1,h2⟩,fun h4=>Zo⟩
       .exact RI.setOffV k4.1 _ (fun b o s e=>by have:=HVB.out h b o s e;show b≠g6;omega),k4.2⟩,
      by rw [Below.heap_setCell _ _ _ _ (show w.heap.size≠g6 by omega)];exact k5,by simpa using k6⟩
    have HSET:=Zh hset;clear hset;by_cases hy0:y < 0
    .by_cases hv0:vn=0
     .have hvi:((vn:Int) == 0)=true:=by simpa using hv0
      have HN:=Zh (HQ.out.put (z:=2) HY.out hy0 Zo (by decide) (fun h=>Zo));have HSO:=Zh (OwI.set HQO.out i 2);have HS2:=Zh (HSET.out _ 2 HDR.out HOR.out HLR.out HVR.out HBR.out hszr);subst hv0;go_wp2_with fail;go_roundw
      case rel=>exact ⟨i+1,by go_num,Zo,Zh ⟨_,HSO.out,HN.out⟩,HS2⟩
      case measure=>exact mq51
     .have hvi:((vn:Int) == 0)=false:=by simpa using hv0
      have hv1:1≤(vn:Int):=by omega
      go_wp2_with fail
      (with_reducible refine (c_below HDR.out hv1 Zo).mono ?_);rintro e w12 ⟨x2,rfl,hx2,hD12,hO12⟩;obtain ⟨z,rfl⟩:=Int.eq_ofNat_of_zero_le hx2.1;have hz:z < vn:=by omega
      have HV12:=Zh (HVR.out.only hO12);obtain ⟨vb,vo,yv,rfl,hyv,hcv⟩:=RI.at_ HV12.out.1 hz;have hyv2:=(HVT.out yv).1 (List.mem_of_getElem? hyv);obtain ⟨xl,hxl,hxl0,hxle⟩:=hyv2;have hxl24:=HTL.out.2.2.1 xl hxl;have hwy:IntKind.i64.wrap (-1 - yv)=xl:=x1q51;have HQ12:=Zh (HQO.out.only hO12 Zo);have HN:=Zh (HQ.out.put (z:=xl) HY.out hy0 hxl24 (arI_var hxl0) (fun _=>hxl));have HSO:=Zh (OwI.set HQ12.out i xl);obtain ⟨y',hy',hcy',hfy'⟩:=OwI.at_ HQ12.out hlt;have hsz12:=hO12.size;have HS2:=Zh (HSET.out _ xl hD12 (HOR.out.trans hO12) (HLR.out.only hO12 Zo) HV12.out ((hO12.block w.heap.size Zo (fun e=>by cases e;omega)).trans HBR.out) Zo);clear hyv hxl hxle hD12 hO12 hy';go_wp2_with fail;go_roundw
      case rel=>exact ⟨i+1,by go_num,Zo,Zh ⟨_,HSO.out,HN.out⟩,HS2⟩
      case measure=>exact mq51
    .have HN:=Zh (HQ.out.keep HY.out hy0);go_wp2_with fail;go_roundw
     case rel=>exact ⟨i+1,by go_num,Zo,Zh ⟨_,HQO.out,HN.out⟩,Zh ⟨HDR.out,HOR.out,HLR.out,HVR.out,HBR.out,hszr⟩⟩
     case measure=>exact mq51
   .obtain rfl:i=rn:=by omega
    have HDN:=Zh (HQ.out.done HR0.out (by have:=HL11.out;omega));have hrc:∀ j:Nat,wr.cell? ⟨w.heap.size,j,none⟩=#[Value.slice none 0 0,.slice none 0 0][j]?:=fun j=>cell_of_row wr _ _ _ _ (0,0) HBR.out;have hr0:wr.cell? ⟨w.heap.size,0,none⟩=some (.slice none 0 0):=hrc 0;have hr1:wr.cell? ⟨w.heap.size,1,none⟩=some (.slice none 0 0):=hrc 1;have hrf:∀ j,wr.frozen? ⟨w.heap.size,j,none⟩=false:=fun j=>frozen_of_row wr _ _ _ _ HBR.out;have hql:=HQO.out.len;have hll:=HLR.out.len;clear hrc;go_wp2_with fail;refine bodyPost_ret (v:=.agg #[.slice LA ln lc,.slice RA i rc]) (by simp [results,Tryz.results18,go_sem,hr0,hr1,hrf]) rfl ?_;refine ⟨LA,ln,lc,RA,i,rc,⟨L,q⟩,rfl,?_,?_,⟨HTL.out,HDN.out.1,HHL.out,HDN.out.2⟩,⟨by show L.length≤15;omega,by show q.length≤7;omega⟩,?_,?_⟩
    .exact ((HLR.out.setFar _ (fun b o s e=>by have:=(HLR.out.bd b o s e).1;show b≠w.heap.size;omega)).setFar _ (fun b o s e=>by have:=(HLR.out.bd b o s e).1;show b≠w.heap.size;omega)).lower Zo
    .exact ((HQO.out.setFar _ (fun b o s e=>by have:=(HQO.out.bd b o s e).1;show b≠w.heap.size;omega)).setFar _ (fun b o s e=>by have:=(HQO.out.bd b o s e).1;show b≠w.heap.size;omega)).lower Zo
    .exact HDR.out.below (Below.setCell (Below.setCell (Below.refl _ _) (by show g+1≤w.heap.size;omega) _) (by show g+1≤w.heap.size;omega) _)
    .exact (HOR.out.grown (Only.setCell _ _ _ _) (fun b e=>by cases e;exact Nat.le_refl _)).grown (Only.setCell _ _ _ _) (fun b e=>by cases e;exact Nat.le_refl _)
def RRn (lo:Nat) (w:World) (B:Option Addr) (m:Nat) (rs:List Ru):Prop:=
 (rs.length=m∧m≤4194304)∧∀ (j:Nat) (r:Ru),rs[j]?=some r→∃ b o A n c A' n' c',B=some ⟨b,o,none⟩∧lo≤b∧w.cell? ⟨b,o+j * 2,none⟩=some (.slice A n c)∧w.cell? ⟨b,o+j * 2+1,none⟩=some (.slice A' n' c') ∧
  (n≤c∧c≤9223372036854775807)∧(n'≤c'∧c'≤9223372036854775807)∧RI w A n r.l∧RI w A' n' r.r∧(∀ b o s,A=some ⟨b,o,s⟩→lo≤b)∧∀ b o s,A'=some ⟨b,o,s⟩→lo≤b
section
variable {lo lo':Nat} {w w':World} {B:Option Addr} {m g:Nat} {rs:List Ru}
theorem RRn.ext (h:RRn lo w B m rs) (k:Ext w w'):RRn lo w' B m rs:=⟨h.1,fun j r hr=>by
 obtain ⟨b,o,A,n,c,A',n',c',e,h0,h1,h2,h3,h4,h5,h6,h7⟩:=h.2 j r hr;exact ⟨b,o,A,n,c,A',n',c',e,h0,Ext.keep k h1,Ext.keep k h2,h3,h4,h5.ext k,h6.ext k,h7⟩⟩
theorem RRn.lower (h:RRn lo w B m rs) (hl:lo'≤lo):RRn lo' w B m rs:=⟨h.1,fun j r hr=>by
 obtain ⟨b,o,A,n,c,A',n',c',e,h0,h1,h2,h3,h4,h5,h6,h7,h8⟩:=h.2 j r hr;exact ⟨b,o,A,n,c,A',n',c',e,Zo,h1,h2,h3,h4,h5,h6,fun b o s e=>by have:=h7 b o s e;omega,fun b o s e=>by have:=h8 b o s e;omega⟩⟩
theorem RRn.set (h:RRn lo w B m rs) {p:Addr} (hp:p.block < lo) (v:Value):RRn lo (w.setCell p v) B m rs:=⟨h.1,fun j r hr=>by
 obtain ⟨b,o,A,n,c,A',n',c',e,h0,h1,h2,h3,h4,h5,h6,h7,h8⟩:=h.2 j r hr;have hb:∀ i,(w.setCell p v).cell? ⟨b,i,none⟩=w.cell? ⟨b,i,none⟩:=fun i=>World.cell?_of_block (Below.heap_setCell _ _ _ _ (show b≠p.block by omega));exact ⟨b,o,A,n,c,A',n',c',e,h0,by rw [hb];exact h1,by rw [hb];exact h2,h3,h4,h5.setOffV v (fun b o s e=>by have:=h7 b o s e;omega),h6.setOffV v (fun b o s e=>by have:=h8 b o s e;omega),h7,h8⟩⟩
theorem RRn.rr (h:RRn lo w B m rs):RR true w B m rs:=⟨h.1,fun hm=>by
 have hl:0 < rs.length:=by have:=h.1.1;omega
 obtain ⟨b,o,_,_,_,_,_,_,e,_⟩:=h.2 0 _ (List.getElem?_eq_getElem hl);refine ⟨b,o,e,fun j r hr=>?_⟩;obtain ⟨b',o',A,n,c,A',n',c',e',h0,h1,h2,h3,h4,h5,h6,_⟩:=h.2 j r hr;rw [e] at e';cases e';exact ⟨⟨A,n,c,h1,fun _=>h3,h5⟩,⟨A',n',c',h2,fun _=>h4,h6⟩⟩⟩
theorem RRn.lit {b:Nat} {cs:Array Value} {T:TypeId} (hrow:w.heap[b]?=some (.cells cs T (0,0))) (hlo:lo≤b) (hm:rs.length=m) (hm2:m≤4194304)
 (hc:∀ (j:Nat) (r:Ru),rs[j]?=some r→(∃ q,cs[j * 2]?=some (.slice (some ⟨q,0,none⟩) r.l.length r.l.length)∧lo≤q∧∃ T',w.heap[q]?=some (.cells (r.l.map (Value.int .i64)).toArray T' (0,0)))∧∃ q,cs[j * 2+1]?=some (.slice (some ⟨q,0,none⟩) r.r.length r.r.length)∧lo≤q∧∃ T',w.heap[q]?=some (.cells (r.r.map (Value.int .i64)).toArray T' (0,0)))
 (hb:∀ r∈rs,r.l.length≤4194304∧r.r.length≤4194304):RRn lo w (some ⟨b,0,none⟩) m rs:=by
 refine ⟨⟨hm,hm2⟩,fun j r hr=>?_⟩;obtain ⟨⟨q,e1,l1,T1,h1⟩,q2,e2,l2,T2,h2⟩:=hc j r hr;obtain ⟨b1,b2⟩:=hb r (List.mem_of_getElem? hr)
 exact ⟨b,0,_,_,_,_,_,_,rfl,hlo,by rw [Nat.zero_add,cell_of_row w b _ cs T (0,0) hrow];exact e1,by rw [Nat.zero_add,cell_of_row w b _ cs T (0,0) hrow];exact e2,Zo,Zo,
  RI.lit h1 b1,RI.lit h2 b2,fun b o s e=>by cases e;exact l1,fun b o s e=>by cases e;exact l2⟩
end
def known:Nat→List Ru
 | 0=>[⟨[0,2,-1],[-1]⟩,⟨[0,1,-1,-2],[1,0,-1,-2]⟩]
 | 1=>[⟨[0,0,-1,-2,-3],[0,-1,0,-2,-3]⟩]
 | 2=>[⟨[1,1,-1],[-1]⟩]
 | 3=>[⟨[0,-1,2],[-1]⟩,⟨[0,1,-1,1,-2],[0,-1,-2]⟩]
 | 4=>[⟨[1,2],[2]⟩,⟨[1,0,-1,-2],[0,1,-2,1,-1]⟩]
 | _=>[⟨[0,2,-1],[-1]⟩,⟨[0,-1,2],[-1]⟩,⟨[0,0,-1,-2,-3],[0,-1,0,-2,-3]⟩]
theorem known0 (w:World):RRn w.heap.size (allocs w [.cells #[.int .i64 0,.int .i64 2,.int .i64 (-1)] 2,.cells #[.int .i64 (-1)] 2,.cells #[.int .i64 0,.int .i64 1,.int .i64 (-1),.int .i64 (-2)] 2,.cells #[.int .i64 1,.int .i64 0,.int .i64 (-1),.int .i64 (-2)] 2,.cells #[.slice (some ⟨w.heap.size,0,none⟩) 3 3,.slice (some ⟨w.heap.size+1,0,none⟩) 1 1,.slice (some ⟨w.heap.size+1+1,0,none⟩) 4 4,.slice (some ⟨w.heap.size+1+1+1,0,none⟩) 4 4] 54]) (some ⟨w.heap.size+1+1+1+1,0,none⟩) 2 (known 0):=by
 refine RRn.lit (T:=54) ((allocs_at w _ 4).trans rfl) Zo rfl Zo (fun j r hx=>?_) (fun r hr=>?_)
 .match j,hx with
  | 0,hx=>cases hx;exact ⟨⟨_,rfl,Zo,_,(allocs_at w _ 0).trans rfl⟩,⟨_,rfl,Zo,_,(allocs_at w _ 1).trans rfl⟩⟩
  | 1,hx=>cases hx;exact ⟨⟨_,rfl,Zo,_,(allocs_at w _ 2).trans rfl⟩,⟨_,rfl,Zo,_,(allocs_at w _ 3).trans rfl⟩⟩
  | j+2,hx=>simp [known] at hx
 .simp only [known,List.mem_cons,List.not_mem_nil,or_false] at hr;rcases hr with rfl | rfl<;>exact ⟨by decide,by decide⟩
theorem known1 (w:World):RRn w.heap.size (allocs w [.cells #[.int .i64 0,.int .i64 0,.int .i64 (-1),.int .i64 (-2),.int .i64 (-3)] 2,.cells #[.int .i64 0,.int .i64 (-1),.int .i64 0,.int .i64 (-2),.int .i64 (-3)] 2,.cells #[.slice (some ⟨w.heap.size,0,none⟩) 5 5,.slice (some ⟨w.heap.size+1,0,none⟩) 5 5] 54]) (some ⟨w.heap.size+1+1,0,none⟩) 1 (known 1):=by
 refine RRn.lit (T:=54) ((allocs_at w _ 2).trans rfl) Zo rfl Zo (fun j r hx=>?_) (fun r hr=>?_)
 .match j,hx with
  | 0,hx=>cases hx;exact ⟨⟨_,rfl,Zo,_,(allocs_at w _ 0).trans rfl⟩,⟨_,rfl,Zo,_,(allocs_at w _ 1).trans rfl⟩⟩
  | j+1,hx=>simp [known] at hx
 .simp only [known,List.mem_cons,List.not_mem_nil,or_false] at hr;rcases hr with rfl<;>exact ⟨by decide,by decide⟩
theorem known2 (w:World):RRn w.heap.size (allocs w [.cells #[.int .i64 1,.int .i64 1,.int .i64 (-1)] 2,.cells #[.int .i64 (-1)] 2,.cells #[.slice (some ⟨w.heap.size,0,none⟩) 3 3,.slice (some ⟨w.heap.size+1,0,none⟩) 1 1] 54]) (some ⟨w.heap.size+1+1,0,none⟩) 1 (known 2):=by
 refine RRn.lit (T:=54) ((allocs_at w _ 2).trans rfl) Zo rfl Zo (fun j r hx=>?_) (fun r hr=>?_)
 .match j,hx with
  | 0,hx=>cases hx;exact ⟨⟨_,rfl,Zo,_,(allocs_at w _ 0).trans rfl⟩,⟨_,rfl,Zo,_,(allocs_at w _ 1).trans rfl⟩⟩
  | j+1,hx=>simp [known] at hx
 .simp only [known,List.mem_cons,List.not_mem_nil,or_false] at hr;rcases hr with rfl<;>exact ⟨by decide,by decide⟩
theorem known3 (w:World):RRn w.heap.size (allocs w [.cells #[.int .i64 0,.int .i64 (-1),.int .i64 2] 2,.cells #[.int .i64 (-1)] 2,.cells #[.int .i64 0,.int .i64 1,.int .i64 (-1),.int .i64 1,.int .i64 (-2)] 2,.cells #[.int .i64 0,.int .i64 (-1),.int .i64 (-2)] 2,.cells #[.slice (some ⟨w.heap.size,0,none⟩) 3 3,.slice (some ⟨w.heap.size+1,0,none⟩) 1 1,.slice (some ⟨w.heap.size+1+1,0,none⟩) 5 5,.slice (some ⟨w.heap.size+1+1+1,0,none⟩) 3 3] 54]) (some ⟨w.heap.size+1+1+1+1,0,none⟩) 2 (known 3):=by
 refine RRn.lit (T:=54) ((allocs_at w _ 4).trans rfl) Zo rfl Zo (fun j r hx=>?_) (fun r hr=>?_)
 .match j,hx with
  | 0,hx=>cases hx;exact ⟨⟨_,rfl,Zo,_,(allocs_at w _ 0).trans rfl⟩,⟨_,rfl,Zo,_,(allocs_at w _ 1).trans rfl⟩⟩
  | 1,hx=>cases hx;exact ⟨⟨_,rfl,Zo,_,(allocs_at w _ 2).trans rfl⟩,⟨_,rfl,Zo,_,(allocs_at w _ 3).trans rfl⟩⟩
  | j+2,hx=>simp [known] at hx
 .simp only [known,List.mem_cons,List.not_mem_nil,or_false] at hr;rcases hr with rfl | rfl<;>exact ⟨by decide,by decide⟩
theorem known4 (w:World):RRn w.heap.size (allocs w [.cells #[.int .i64 1,.int .i64 2] 2,.cells #[.int .i64 2] 2,.cells #[.int .i64 1,.int .i64 0,.int .i64 (-1),.int .i64 (-2)] 2,.cells #[.int .i64 0,.int .i64 1,.int .i64 (-2),.int .i64 1,.int .i64 (-1)] 2,.cells #[.slice (some ⟨w.heap.size,0,none⟩) 2 2,.slice (some ⟨w.heap.size+1,0,none⟩) 1 1,.slice (some ⟨w.heap.size+1+1,0,none⟩) 4 4,.slice (some ⟨w.heap.size+1+1+1,0,none⟩) 5 5] 54]) (some ⟨w.heap.size+1+1+1+1,0,none⟩) 2 (known 4):=by
 refine RRn.lit (T:=54) ((allocs_at w _ 4).trans rfl) Zo rfl Zo (fun j r hx=>?_) (fun r hr=>?_)
 .match j,hx with
  | 0,hx=>cases hx;exact ⟨⟨_,rfl,Zo,_,(allocs_at w _ 0).trans rfl⟩,⟨_,rfl,Zo,_,(allocs_at w _ 1).trans rfl⟩⟩
  | 1,hx=>cases hx;exact ⟨⟨_,rfl,Zo,_,(allocs_at w _ 2).trans rfl⟩,⟨_,rfl,Zo,_,(allocs_at w _ 3).trans rfl⟩⟩
  | j+2,hx=>simp [known] at hx
 .simp only [known,List.mem_cons,List.not_mem_nil,or_false] at hr;rcases hr with rfl | rfl<;>exact ⟨by decide,by decide⟩
theorem known5 (w:World):RRn w.heap.size (allocs w [.cells #[.int .i64 0,.int .i64 2,.int .i64 (-1)] 2,.cells #[.int .i64 (-1)] 2,.cells #[.int .i64 0,.int .i64 (-1),.int .i64 2] 2,.cells #[.int .i64 (-1)] 2,.cells #[.int .i64 0,.int .i64 0,.int .i64 (-1),.int .i64 (-2),.int .i64 (-3)] 2,.cells #[.int .i64 0,.int .i64 (-1),.int .i64 0,.int .i64 (-2),.int .i64 (-3)] 2,.cells #[.slice (some ⟨w.heap.size,0,none⟩) 3 3,.slice (some ⟨w.heap.size+1,0,none⟩) 1 1,.slice (some ⟨w.heap.size+1+1,0,none⟩) 3 3,.slice (some ⟨w.heap.size+1+1+1,0,none⟩) 1 1,.slice (some ⟨w.heap.size+1+1+1+1,0,none⟩) 5 5,.slice (some ⟨w.heap.size+1+1+1+1+1,0,none⟩) 5 5] 54]) (some ⟨w.heap.size+1+1+1+1+1+1,0,none⟩) 3 (known 5):=by
 refine RRn.lit (T:=54) ((allocs_at w _ 6).trans rfl) Zo rfl Zo (fun j r hx=>?_) (fun r hr=>?_)
 .match j,hx with
  | 0,hx=>cases hx;exact ⟨⟨_,rfl,Zo,_,(allocs_at w _ 0).trans rfl⟩,⟨_,rfl,Zo,_,(allocs_at w _ 1).trans rfl⟩⟩
  | 1,hx=>cases hx;exact ⟨⟨_,rfl,Zo,_,(allocs_at w _ 2).trans rfl⟩,⟨_,rfl,Zo,_,(allocs_at w _ 3).trans rfl⟩⟩
  | 2,hx=>cases hx;exact ⟨⟨_,rfl,Zo,_,(allocs_at w _ 4).trans rfl⟩,⟨_,rfl,Zo,_,(allocs_at w _ 5).trans rfl⟩⟩
  | j+3,hx=>simp [known] at hx
 .simp only [known,List.mem_cons,List.not_mem_nil,or_false] at hr;rcases hr with rfl | rfl | rfl<;>exact ⟨by decide,by decide⟩
theorem c_w9Known {k:Nat} {w:World} (hk:k < 6):Calls Tryz.prog 17 #[.int .i64 (k:Int)] w fun e w'=>∃ B m,e=.returned (.slice B m m)∧RRn w.heap.size w' B m (known k)∧Ext w w':=by
 match k,hk with
 | 0,_=>
  go_enter Tryz.func17,Tryz.ntmps17;go_wp2;go_ret;exact ⟨_,2,rfl,known0 w,extX⟩
 | 1,_=>
  go_enter Tryz.func17,Tryz.ntmps17;go_wp2;go_ret;exact ⟨_,1,rfl,known1 w,extX⟩
 | 2,_=>
  go_enter Tryz.func17,Tryz.ntmps17;go_wp2;go_ret;exact ⟨_,1,rfl,known2 w,extX⟩
 | 3,_=>
  go_enter Tryz.func17,Tryz.ntmps17;go_wp2;go_ret;exact ⟨_,2,rfl,known3 w,extX⟩
 | 4,_=>
  go_enter Tryz.func17,Tryz.ntmps17;go_wp2;go_ret;exact ⟨_,2,rfl,known4 w,extX⟩
 | 5,_=>
  go_enter Tryz.func17,Tryz.ntmps17;go_wp2;go_ret;exact ⟨_,3,rfl,known5 w,extX⟩
def GoodR (r:Ru):Prop:=RuleP [2,1,0] r∧r.l.length≤15∧r.r.length≤7
theorem known_ok {k:Nat} (hk:k < 6):(known k).length≤3∧∀ r∈known k,GoodR r:=by
 match k,hk with
 | 0,_=>exact ⟨by decide,fun r hr=>by simp only [known,List.mem_cons,List.not_mem_nil,or_false] at hr;rcases hr with rfl | rfl<;>exact ⟨⟨⟨sigR3,by decide,by decide,by decide⟩,⟨sigR3,by decide,by decide,by decide⟩,fun x hx=>by cases hx;decide,by decide⟩,by decide,by decide⟩⟩
 | 1,_=>exact ⟨by decide,fun r hr=>by simp only [known,List.mem_cons,List.not_mem_nil,or_false] at hr;rcases hr with rfl;exact ⟨⟨⟨sigR3,by decide,by decide,by decide⟩,⟨sigR3,by decide,by decide,by decide⟩,fun x hx=>by cases hx;decide,by decide⟩,by decide,by decide⟩⟩
 | 2,_=>exact ⟨by decide,fun r hr=>by simp only [known,List.mem_cons,List.not_mem_nil,or_false] at hr;rcases hr with rfl;exact ⟨⟨⟨sigR3,by decide,by decide,by decide⟩,⟨sigR3,by decide,by decide,by decide⟩,fun x hx=>by cases hx;decide,by decide⟩,by decide,by decide⟩⟩
 | 3,_=>exact ⟨by decide,fun r hr=>by simp only [known,List.mem_cons,List.not_mem_nil,or_false] at hr;rcases hr with rfl | rfl<;>exact ⟨⟨⟨sigR3,by decide,by decide,by decide⟩,⟨sigR3,by decide,by decide,by decide⟩,fun x hx=>by cases hx;decide,by decide⟩,by decide,by decide⟩⟩
 | 4,_=>exact ⟨by decide,fun r hr=>by simp only [known,List.mem_cons,List.not_mem_nil,or_false] at hr;rcases hr with rfl | rfl<;>exact ⟨⟨⟨sigR3,by decide,by decide,by decide⟩,⟨sigR3,by decide,by decide,by decide⟩,fun x hx=>by cases hx;decide,by decide⟩,by decide,by decide⟩⟩
 | 5,_=>exact ⟨by decide,fun r hr=>by simp only [known,List.mem_cons,List.not_mem_nil,or_false] at hr;rcases hr with rfl | rfl | rfl<;>exact ⟨⟨⟨sigR3,by decide,by decide,by decide⟩,⟨sigR3,by decide,by decide,by decide⟩,fun x hx=>by cases hx;decide,by decide⟩,by decide,by decide⟩⟩
theorem good_sys {rs:List Ru} (hl:rs.length≤3) (h:∀ r∈rs,GoodR r):SysP ⟨[2,1,0],rs⟩:=⟨sigR3,by show rs.length≤12;omega,fun j r hr=>(h r (List.mem_of_getElem? hr)).1⟩
def flatRs (rs:List Ru):List (List Int):=rs.flatMap fun r=>[r.l,r.r]
theorem flatRs_snoc (rs:List Ru) (r:Ru):flatRs (rs++[r])=flatRs rs++[r.l,r.r]:=by unfold flatRs;rw [List.flatMap_append];rfl
theorem flatRs_at:∀ {rs:List Ru} {j:Nat} {r:Ru},rs[j]?=some r→(flatRs rs)[j * 2]?=some r.l∧(flatRs rs)[j * 2+1]?=some r.r
 | [],_,_,h=>by simp at h
 | q :: rs,0,r,h=>by cases h;exact ⟨rfl,rfl⟩
 | q :: rs,j+1,r,h=>by
  have ih:=flatRs_at (rs:=rs) (j:=j) (by simpa using h);unfold flatRs at ih ⊢;rw [List.flatMap_cons];exact ⟨by rw [show (j+1) * 2=j * 2+2 by omega];simpa using ih.1,by rw [show (j+1) * 2+1=j * 2+1+2 by omega];simpa using ih.2⟩
def NewSg (w:World) (g:Nat) (e:Ending) (w':World):Prop:=∃ (A:Option Addr) (c:Nat) (B:Option Addr) (m d:Nat) (rs:List Ru),e=.returned (.agg #[.slice A 3 c,.slice B m d])∧(RI w' A 3 [2,1,0]∧∀ b o q,A=some ⟨b,o,q⟩→w.heap.size≤b)∧RRn w.heap.size w' B m rs∧rs.length≤3∧(∀ r∈rs,GoodR r)∧Dice w' g∧Only w w' g
theorem rule_infoS:(Tryz.prog.info? 54).map (fun i=>(i.zero,i.size,i.bytes))=some (some (.agg #[.slice none 0 0,.slice none 0 0]),2,48):=Zk
theorem two_oneY (A B:Option Addr) (n c m d:Nat):∀ u∈[Value.slice A n c,.slice B m d],u.oneCell'=true:=by intro u hu;simp at hu;rcases hu with rfl | rfl<;>rfl
abbrev RowY (AS:Option Addr) (cS:Nat):=RowBox 54 32 2 (fun v=>#[.slice AS 3 cS,v]) #[.slice none 0 0,.slice none 0 0]
theorem RowBox.rrn {AS:Option Addr} {cS:Nat} {w0 w:World} {g p r:Nat} {A:Option Addr} {n c:Nat} {rs:List Ru} (h:RowY AS cS w0 w g p r AS 3 cS [2,1,0] A n c (flatRs rs)) (hl:rs.length=n) (hn:n≤100) {v0 v1:Value} :
 RRn w0.heap.size ((w.setCell ⟨r,0,none⟩ v0).setCell ⟨r,1,none⟩ v1) A n rs∧RI ((w.setCell ⟨r,0,none⟩ v0).setCell ⟨r,1,none⟩ v1) AS 3 [2,1,0]:=by
 obtain ⟨cs,h1,h2,h3⟩:=h.row;have hT:∀ {A':Option Addr} {m' c':Nat} {xs:List Int},OwI w w0.heap.size A' m' c' xs→RI ((w.setCell ⟨r,0,none⟩ v0).setCell ⟨r,1,none⟩ v1) A' m' xs:=fun {A' m' c' xs} hO=>by
  have hne:∀ b o s,A'=some ⟨b,o,s⟩→b≠r:=fun b o s e=>by
   rcases hO.blk with e0 | ⟨b',cur,e0,_,hb⟩
   .rw [e0] at e;cases e
   .rw [e0] at e;cases e;intro e2;subst e2;rw [h.rb] at hb;cases hb
  exact OwI.ri ((hO.setFar _ hne).setFar _ hne)
 refine ⟨⟨⟨hl,Zo⟩,fun j r' hr=>?_⟩,hT h.sg⟩;have hj:j < n:=by have:=(List.getElem?_eq_some_iff.1 hr).1;omega
 obtain ⟨f1,f2⟩:=flatRs_at hr;obtain ⟨A',m',c',e1,e2⟩:=h3 _ _ f1;obtain ⟨A'',m'',c'',e3,e4⟩:=h3 _ _ f2;obtain ⟨b,cap,hv,hlo,hbl⟩:=World.ownsRow.form h1 Zo;cases hv;have hbr:b≠r:=fun e=>by
  obtain ⟨_,_,cur,h5⟩:=ownsRow_at h1 (b:=b) rfl;subst e;rw [h.rb] at h5;cases h5
 have hcell:∀ i,((w.setCell ⟨r,0,none⟩ v0).setCell ⟨r,1,none⟩ v1).cell? ⟨b,i,none⟩=w.cell? ⟨b,i,none⟩:=fun i=>
  (World.cell?_of_block (Below.heap_setCell _ _ _ _ hbr)).trans (World.cell?_of_block (Below.heap_setCell _ _ _ _ hbr))
 exact ⟨b,0,A',m',c',A'',m'',c'',rfl,hlo,by rw [hcell,Nat.zero_add,World.ownsRow.cellAt h1 (j * 2) Zo];exact e1,by rw [hcell,Nat.zero_add,World.ownsRow.cellAt h1 (j * 2+1) Zo];exact e3,e2.cap,e4.cap,hT e2,hT e4,
  fun b' o s e=>(e2.bd b' o s e).1,fun b' o s e=>(e4.bd b' o s e).1⟩
theorem c_w9System {g:Nat} {w:World} (h0:Dice w g):Calls Tryz.prog 6 #[.pointer (some ⟨g,0,none⟩)] w (NewSg w g):=by
 have HD:=Zh h0;have hgl:=h0.lt;obtain ⟨i0,hii,hiz,his,hib⟩:=info_parts rule_infoS;clear h0;go_enter Tryz.func6,Tryz.ntmps6;go_wp2_with fail;obtain ⟨w1,hw1⟩:∃ w1,w1=w.alloc (.cells #[.slice none 0 0,.slice none 0 0] 32):=⟨_,rfl⟩;have hrb1:w1.heap[w.heap.size]?=some (.cells #[.slice none 0 0,.slice none 0 0] 32 (0,0)):=by rw [hw1];exact heap_alloc_new w _
 have hE1:Ext w w1:=by rw [hw1];exact extX
 have hz1:w.heap.size < w1.heap.size:=by rw [hw1];simp [go_sem]
 rw [← hw1];clear hw1
 (with_reducible refine (c_w9Sig).mono ?_);rintro e w3 ⟨AS,nS,cS,rfl,hO3,hE3⟩;have hnS:nS=3:=hO3.len.symm;subst hnS;have hsz3:=hE3.size;have hE13:=Ext.trans hE1 hE3
 have HB4:=Zh (show RowY AS cS w (w3.alloc (.cells #[.slice AS 3 cS,.slice none 0 0] 32)) g w3.heap.size w.heap.size AS 3 cS [2,1,0] none 0 0 (flatRs []) from
  ⟨heap_alloc_new w3 _,⟨[],World.ownsRow_nil _ _ _ _,rfl,fun j xs hx=>by simp [flatRs] at hx⟩,(hO3.lower Zo).alloc _,HD.out.ext (hE13.alloc _),Only.of_ext (hE13.alloc _) g,Zo,hgl,
   (((Ext.refl w3).alloc _).block w.heap.size Zo).trans ((hE3.block w.heap.size hz1).trans hrb1),Zo,Nat.le_refl _⟩)
 obtain ⟨w4,hw4⟩:∃ w4,w4=w3.alloc (.cells #[.slice AS 3 cS,.slice none 0 0] 32):=⟨_,rfl⟩;rw [← hw4] at HB4;clear hO3 hrb1;go_wp2_with fail;rw [← hw4];clear hw4;obtain ⟨p,hp⟩:∃ p,p=w3.heap.size:=⟨_,rfl⟩;rw [← hp] at HB4 ⊢;have hpw:w.heap.size < p:=by omega
 clear hp
 (with_reducible refine (c_below HB4.out.di Zo Zo).mono ?_);rintro e w5 ⟨x,rfl,hx,hD5,hO5⟩;have HB5:=Zh (HB4.out.step hD5 hO5);clear HB4 hD5 hO5
 have HBX:=Zh (show ∀ (w':World) (A:Option Addr) (n c:Nat) (xss:List (List Int)),RowY AS cS w w' g p w.heap.size AS 3 cS [2,1,0] A n c xss→w'.cell? ⟨p,0,none⟩=some (.slice AS 3 cS)∧w'.cell? ⟨p,1,none⟩=some (.slice A n c)∧(∀ j,w'.frozen? ⟨p,j,none⟩=false)∧w'.cell? ⟨w.heap.size,0,none⟩=some (.slice none 0 0)∧w'.cell? ⟨w.heap.size,1,none⟩=some (.slice none 0 0)∧∀ j,w'.frozen? ⟨w.heap.size,j,none⟩=false from
  fun w' A n c xss h=>⟨cell_of_row _ _ _ _ _ (0,0) h.bx,cell_of_row _ _ _ _ _ (0,0) h.bx,fun j=>frozen_of_row _ _ _ _ _ h.bx,cell_of_row _ _ _ _ _ (0,0) h.rb,cell_of_row _ _ _ _ _ (0,0) h.rb,fun j=>frozen_of_row _ _ _ _ _ h.rb⟩)
 by_cases hx0:x=0
 .subst hx0;go_wp2_with fail
  (with_reducible refine (c_below HB5.out.di Zo Zo).mono ?_);rintro e w6 ⟨k,rfl,hk,hD6,hO6⟩;obtain ⟨k',rfl⟩:=Int.eq_ofNat_of_zero_le hk.1;have HB6:=Zh (HB5.out.step hD6 hO6);have hk6:k' < 6:=by omega
  clear hD6 hO6;go_wp2_with fail
  (with_reducible refine (c_w9Known hk6).mono ?_);rintro e w7 ⟨B,m,rfl,hR7,hE7⟩;have HB7:=Zh (HB6.out.ext hE7);have HR7:=Zh hR7;have hpl:=HB6.out.lt;have hpl7:=HB7.out.lt;obtain ⟨q0,q1,qf,r0,r1,rf⟩:=HBX.out _ _ _ _ _ HB7.out;have hne:p≠w.heap.size:=by omega
  have hkl:=known_ok hk6;clear hR7;go_wp2_with fail;refine bodyPost_ret (v:=.agg #[.slice AS 3 cS,.slice B m m]) (by simp [results,Tryz.results6,go_sem,r0,r1,rf,q0,q1,qf,hne,hne.symm]) rfl ?_;refine ⟨AS,cS,B,m,m,known k',rfl,⟨?_,fun b o s e=>(HB7.out.sg.bd b o s e).1⟩,(((HR7.out.set (by show p < w6.heap.size;omega) _).set (by show w.heap.size < w6.heap.size;omega) _).set (by show w.heap.size < w6.heap.size;omega) _).lower Zo,hkl.1,hkl.2,?_,?_⟩
  .have hO:=HB7.out.sg;have hn1:∀ b o s,AS=some ⟨b,o,s⟩→b≠p:=fun b o s e=>by
    rcases hO.blk with e0 | ⟨b',cur,e0,_,hb⟩
    .rw [e0] at e;cases e
    .rw [e0] at e;cases e;intro e2;subst e2;rw [HB7.out.bx] at hb;cases hb
   have hn2:∀ b o s,AS=some ⟨b,o,s⟩→b≠w.heap.size:=fun b o s e=>by
    rcases hO.blk with e0 | ⟨b',cur,e0,_,hb⟩
    .rw [e0] at e;cases e
    .rw [e0] at e;cases e;intro e2;subst e2;rw [HB7.out.rb] at hb;cases hb
   exact OwI.ri (((hO.setFar _ hn1).setFar _ hn2).setFar _ hn2)
  .exact HB7.out.di.below (Below.setCell (Below.setCell (Below.setCell (Below.refl _ _) (by show g+1≤p;omega) _) (by show g+1≤w.heap.size;omega) _) (by show g+1≤w.heap.size;omega) _)
  .exact ((HB7.out.on.grown (Only.setCell _ _ _ _) (fun b e=>by cases e;omega)).grown (Only.setCell _ _ _ _) (fun b e=>by cases e;exact Nat.le_refl _)).grown (Only.setCell _ _ _ _) (fun b e=>by cases e;exact Nat.le_refl _)
 .have hxb:(x == 0)=false:=by simpa using hx0
  go_wp2_with fail
  (with_reducible refine (c_below HB5.out.di Zo Zo).mono ?_);rintro e w6 ⟨k,rfl,hk,hD6,hO6⟩;obtain ⟨k',rfl⟩:=Int.eq_ofNat_of_zero_le hk.1;have HB6:=Zh (HB5.out.step hD6 hO6);have hk1:IntKind.i64.wrap (1+(k':Int))=((1+k':Nat):Int):=by rw [IntWalk.i64_in _ Zo];push_cast;rfl
  clear hD6 hO6 HB5;go_wp2_with fail;go_loopw [4] (fun kv wr=>∃ k:Nat,kv=.int .i64 k∧k≤3∧Hid (∃ A n c rs,RowY AS cS w wr g p w.heap.size AS 3 cS [2,1,0] A n c (flatRs rs)∧n+k≤3∧rs.length=n∧∀ r∈rs,GoodR r)) (fun kv _=>(intOf kv).toNat)
  case atStart=>exact ⟨1+k',by first | rfl | (congr 1;first | exact hk1 | omega),Zo,Zh ⟨none,0,0,[],HB6.out,Zo,rfl,fun t ht=>by cases ht⟩⟩
  case round=>
   obtain ⟨k,rfl,hk,hI⟩:=hrel;obtain ⟨A,n,c,rs,hB,hn3,hrl,hrs⟩:=hI.out;have HB:=Zh hB;have HRL:=Zh hrl;have HRS:=Zh hrs;have hpl:=hB.lt;clear hI hB hrl hrs;by_cases hlt:0 < k
   .have hki:(k:Int) > 0:=by omega
    go_wp2_with fail;refine wp_only (R:=fun (a0:Act) (a8:Act) (w9:World)=>∃ (A5:Option Addr) (n5:Nat) (c5:Nat) (A6:Option Addr) (n6:Nat) (c6:Nat) (r5:Ru) (q:Nat) (g4:Nat) (cap:Nat),a8=(((((((a0.put (some 22) (.pointer (some ⟨p,1,none⟩))).put (some 23) (.slice A n c)).put (some 24) (.pointer (some ⟨g,0,none⟩))).put (some 28) (.pointer (some ⟨p,1,none⟩))).put (some 25) (.agg #[.slice A5 n5 c5,.slice A6 n6 c6])).put (some 26) (.slice (some ⟨q,0,none⟩) 1 1)).put (some 27) (.slice (some ⟨g4,0,none⟩) (n+1) cap))∧GoodR r5∧RowY AS cS w w9 g p w.heap.size AS 3 cS [2,1,0] (some ⟨g4,0,none⟩) (n+1) cap (flatRs rs++[r5.l,r5.r])) ?_ (fun a8 w15 hR=>?_)
    .refine wp_region_held_drew (S:=(fun w'=>True)) Zk (trivial) (fun hH=>?_);refine s2Z2 0 (.pointer (some ⟨p,1,none⟩)) 22 2 (.pointer (some ⟨g,0,none⟩)) 24 hH ?_;refine wpAnyH_ready (rs:=[1,3]) Zk (by simp) ?_;refine AllReadyH.cons rfl (fun K hK=>?_) (AllReadyH.cons rfl (fun K hK=>?_) (AllReadyH.nil))
     .rw [if_pos Zr];have y0:=(HBX.out _ _ _ _ _ (HB.out.ext (Ext.refl wr).drew)).2.1;go_wp2_with fail;refine hK.out _ _ (trivial) (fun hH9=>?_);clear hK hH;rename _=>hH;try simp only [Act.put,Zl]
      refine Z4 3 fun K hK=>?_;go_wp2_with fail
      (with_reducible refine (c_w9Rule (HB.out.ext (Ext.refl wr).drew).di).mono ?_);rintro e w9 ⟨A5,n5,c5,A6,n6,c6,r5,rfl,hO5,hO6,hRP5,hRL5,hD9,hOn9⟩;refine hK.out _ _ (trivial) (fun hH9=>?_);clear hK hH;rename _=>hH;try simp only [Act.put,Zl]
      refine Z4 4 fun K hK=>?_;go_wp2_with fail;refine hK.out _ _ (trivial) (fun hH9=>?_);clear hK hH;rename _=>hH;try simp only [Act.put,Zl]
      refine Z4 5 fun K hK=>?_;have HB9:=(HB.out.ext (Ext.refl wr).drew).step hD9 hOn9;have hsw:=HB.out.on.size;have hO5b:=hO5.lower (B':=w.heap.size) (by simpa using hsw);have hO6b:=hO6.lower (B':=w.heap.size) (by simpa using hsw);obtain ⟨cs,hrow,hcl,hel⟩:=HB9.row;have hrow2:=ownsRow_heap (w':=w9.alloc (.cells #[.slice A5 n5 c5,.slice A6 n6 c6] 54)) hrow (fun b e=>((Ext.refl w9).alloc _).block b (ownsRow_at hrow e).2.1);refine wp_append_lies _ (.tmp 23) (.tmp 26) 30 rfl w.heap.size 54 i0 (.agg #[.slice none 0 0,.slice none 0 0]) 2 48 Tryz.underlying30 hii hiz his hib rfl (by decide) _ n _ rfl hrow2 ⟨w9.heap.size,0,none⟩ 1 1 [.slice A5 n5 c5,.slice A6 n6 c6] rfl rfl (World.news_of_block (heap_alloc_new w9 _)) (two_oneY _ _ _ _ _ _) (by decide) (by unfold maxLen;omega) Zo (by have:=HB9.on.size;simp;omega) _ rfl (fun g4 cap w92 hown hg92 hat92 hlt92=>?_);have hB10:=RowBox.push (q:=1) HB9 (by decide) (by decide) (by decide) (fun v v'=>rfl) hrow hcl hel (new:=[.slice A5 n5 c5,.slice A6 n6 c6]) (yss:=[r5.l,r5.r]) rfl (fun j xs hx=>by (cases j with | zero=>(cases hx;exact ⟨A5,n5,c5,rfl,hO5b⟩) | succ j=>(cases j with | zero=>(cases hx;exact ⟨A6,n6,c6,rfl,hO6b⟩) | succ j=>simp at hx))) hown hg92;have hbx92:w92.heap[p]?=some (.cells #[.slice AS 3 cS,.slice A n c] 32 (0,0)):=(hg92.block p (by have:=HB9.lt;simp;omega) (fun e=>by (have h1:=ownsRow_at hrow e.symm;obtain ⟨_,_,cur,h2⟩:=h1;rw [HB9.bx] at h2;cases h2))).trans ((((Ext.refl w9).alloc _).block p HB9.lt).trans HB9.bx);refine hK.out _ _ (trivial) (fun hH9=>?_);clear hK hH;rename _=>hH;try simp only [Act.put,Zl]
      refine s1Z2 6 (.pointer (some ⟨p,1,none⟩)) 28 hH ?_;refine Z4 7 fun K hK=>?_;have z0:w92.cell? ⟨p,1,none⟩=some (.slice A n c):=cell_of_row _ _ _ _ _ (0,0) hbx92;have zf:∀ j,w92.frozen? ⟨p,j,none⟩=false:=fun j=>frozen_of_row _ _ _ _ _ hbx92;go_wp2_with fail;refine hK.out _ _ (trivial) (fun hH9=>?_);clear hK hH;rename _=>hH;try simp only [Act.put,Zl]
      refine wpAnyH_done Zk ?_ _;exact ⟨A5,n5,c5,A6,n6,c6,r5,_,g4,cap,Zr,⟨hRP5,hRL5⟩,hB10⟩
     .rw [if_pos Zr];go_wp2_with fail
      (with_reducible refine (c_w9Rule (HB.out.ext (Ext.refl wr).drew).di).mono ?_);rintro e w9 ⟨A5,n5,c5,A6,n6,c6,r5,rfl,hO5,hO6,hRP5,hRL5,hD9,hOn9⟩;refine hK.out _ _ (trivial) (fun hH9=>?_);clear hK hH;rename _=>hH;try simp only [Act.put,Zl]
      refine wpAnyH_ready (rs:=[1,4]) Zk (by simp) ?_;refine AllReadyH.cons rfl (fun K hK=>?_) (AllReadyH.cons rfl (fun K hK=>?_) (AllReadyH.nil))
      .rw [if_pos Zr];have y0:=(HBX.out _ _ _ _ _ ((HB.out.ext (Ext.refl wr).drew).step hD9 hOn9)).2.1;go_wp2_with fail;refine hK.out _ _ (trivial) (fun hH9=>?_);clear hK hH;rename _=>hH;try simp only [Act.put,Zl]
       refine Z4 4 fun K hK=>?_;go_wp2_with fail;refine hK.out _ _ (trivial) (fun hH9=>?_);clear hK hH;rename _=>hH;try simp only [Act.put,Zl]
       refine Z4 5 fun K hK=>?_;have HB9:=(HB.out.ext (Ext.refl wr).drew).step hD9 hOn9;have hsw:=HB.out.on.size;have hO5b:=hO5.lower (B':=w.heap.size) (by simpa using hsw);have hO6b:=hO6.lower (B':=w.heap.size) (by simpa using hsw);obtain ⟨cs,hrow,hcl,hel⟩:=HB9.row;have hrow2:=ownsRow_heap (w':=w9.alloc (.cells #[.slice A5 n5 c5,.slice A6 n6 c6] 54)) hrow (fun b e=>((Ext.refl w9).alloc _).block b (ownsRow_at hrow e).2.1);refine wp_append_lies _ (.tmp 23) (.tmp 26) 30 rfl w.heap.size 54 i0 (.agg #[.slice none 0 0,.slice none 0 0]) 2 48 Tryz.underlying30 hii hiz his hib rfl (by decide) _ n _ rfl hrow2 ⟨w9.heap.size,0,none⟩ 1 1 [.slice A5 n5 c5,.slice A6 n6 c6] rfl rfl (World.news_of_block (heap_alloc_new w9 _)) (two_oneY _ _ _ _ _ _) (by decide) (by unfold maxLen;omega) Zo (by have:=HB9.on.size;simp;omega) _ rfl (fun g4 cap w92 hown hg92 hat92 hlt92=>?_);have hB10:=RowBox.push (q:=1) HB9 (by decide) (by decide) (by decide) (fun v v'=>rfl) hrow hcl hel (new:=[.slice A5 n5 c5,.slice A6 n6 c6]) (yss:=[r5.l,r5.r]) rfl (fun j xs hx=>by (cases j with | zero=>(cases hx;exact ⟨A5,n5,c5,rfl,hO5b⟩) | succ j=>(cases j with | zero=>(cases hx;exact ⟨A6,n6,c6,rfl,hO6b⟩) | succ j=>simp at hx))) hown hg92;have hbx92:w92.heap[p]?=some (.cells #[.slice AS 3 cS,.slice A n c] 32 (0,0)):=(hg92.block p (by have:=HB9.lt;simp;omega) (fun e=>by (have h1:=ownsRow_at hrow e.symm;obtain ⟨_,_,cur,h2⟩:=h1;rw [HB9.bx] at h2;cases h2))).trans ((((Ext.refl w9).alloc _).block p HB9.lt).trans HB9.bx);refine hK.out _ _ (trivial) (fun hH9=>?_);clear hK hH;rename _=>hH;try simp only [Act.put,Zl]
       refine s1Z2 6 (.pointer (some ⟨p,1,none⟩)) 28 hH ?_;refine Z4 7 fun K hK=>?_;have z0:w92.cell? ⟨p,1,none⟩=some (.slice A n c):=cell_of_row _ _ _ _ _ (0,0) hbx92;have zf:∀ j,w92.frozen? ⟨p,j,none⟩=false:=fun j=>frozen_of_row _ _ _ _ _ hbx92;go_wp2_with fail;refine hK.out _ _ (trivial) (fun hH9=>?_);clear hK hH;rename _=>hH;try simp only [Act.put,Zl]
       refine wpAnyH_done Zk ?_ _;exact ⟨A5,n5,c5,A6,n6,c6,r5,_,g4,cap,Zr,⟨hRP5,hRL5⟩,hB10⟩
      .rw [if_pos Zr];go_wp2_with fail;refine hK.out _ _ (trivial) (fun hH9=>?_);clear hK hH;rename _=>hH;try simp only [Act.put,Zl]
       refine Z4 1 fun K hK=>?_;have y0:=(HBX.out _ _ _ _ _ (((HB.out.ext (Ext.refl wr).drew).step hD9 hOn9).ext ((Ext.refl w9).alloc (.cells #[.slice A5 n5 c5,.slice A6 n6 c6] 54)))).2.1;go_wp2_with fail;refine hK.out _ _ (trivial) (fun hH9=>?_);clear hK hH;rename _=>hH;try simp only [Act.put,Zl]
       refine Z4 5 fun K hK=>?_;have HB9:=(HB.out.ext (Ext.refl wr).drew).step hD9 hOn9;have hsw:=HB.out.on.size;have hO5b:=hO5.lower (B':=w.heap.size) (by simpa using hsw);have hO6b:=hO6.lower (B':=w.heap.size) (by simpa using hsw);obtain ⟨cs,hrow,hcl,hel⟩:=HB9.row;have hrow2:=ownsRow_heap (w':=w9.alloc (.cells #[.slice A5 n5 c5,.slice A6 n6 c6] 54)) hrow (fun b e=>((Ext.refl w9).alloc _).block b (ownsRow_at hrow e).2.1);refine wp_append_lies _ (.tmp 23) (.tmp 26) 30 rfl w.heap.size 54 i0 (.agg #[.slice none 0 0,.slice none 0 0]) 2 48 Tryz.underlying30 hii hiz his hib rfl (by decide) _ n _ rfl hrow2 ⟨w9.heap.size,0,none⟩ 1 1 [.slice A5 n5 c5,.slice A6 n6 c6] rfl rfl (World.news_of_block (heap_alloc_new w9 _)) (two_oneY _ _ _ _ _ _) (by decide) (by unfold maxLen;omega) Zo (by have:=HB9.on.size;simp;omega) _ rfl (fun g4 cap w92 hown hg92 hat92 hlt92=>?_);have hB10:=RowBox.push (q:=1) HB9 (by decide) (by decide) (by decide) (fun v v'=>rfl) hrow hcl hel (new:=[.slice A5 n5 c5,.slice A6 n6 c6]) (yss:=[r5.l,r5.r]) rfl (fun j xs hx=>by (cases j with | zero=>(cases hx;exact ⟨A5,n5,c5,rfl,hO5b⟩) | succ j=>(cases j with | zero=>(cases hx;exact ⟨A6,n6,c6,rfl,hO6b⟩) | succ j=>simp at hx))) hown hg92;have hbx92:w92.heap[p]?=some (.cells #[.slice AS 3 cS,.slice A n c] 32 (0,0)):=(hg92.block p (by have:=HB9.lt;simp;omega) (fun e=>by (have h1:=ownsRow_at hrow e.symm;obtain ⟨_,_,cur,h2⟩:=h1;rw [HB9.bx] at h2;cases h2))).trans ((((Ext.refl w9).alloc _).block p HB9.lt).trans HB9.bx);refine hK.out _ _ (trivial) (fun hH9=>?_);clear hK hH;rename _=>hH;try simp only [Act.put,Zl]
       refine s1Z2 6 (.pointer (some ⟨p,1,none⟩)) 28 hH ?_;refine Z4 7 fun K hK=>?_;have z0:w92.cell? ⟨p,1,none⟩=some (.slice A n c):=cell_of_row _ _ _ _ _ (0,0) hbx92;have zf:∀ j,w92.frozen? ⟨p,j,none⟩=false:=fun j=>frozen_of_row _ _ _ _ _ hbx92;go_wp2_with fail;refine hK.out _ _ (trivial) (fun hH9=>?_);clear hK hH;rename _=>hH;try simp only [Act.put,Zl]
       refine wpAnyH_done Zk ?_ _;exact ⟨A5,n5,c5,A6,n6,c6,r5,_,g4,cap,Zr,⟨hRP5,hRL5⟩,hB10⟩
    obtain ⟨A5,n5,c5,A6,n6,c6,r5,q,g4,cap,ha,⟨hTP5,hB5⟩⟩:=hR;simp only [Act.put,Zl] at ha;subst ha
    have HN:=Zh (show ∃ A n c rs,RowY AS cS w w15 g p w.heap.size AS 3 cS [2,1,0] A n c (flatRs rs)∧n+(k - 1)≤3∧rs.length=n∧∀ r∈rs,GoodR r from
     ⟨_,_,_,rs++[r5],by rw [flatRs_snoc];exact hB5,Zo,by simp [HRL.out],fun r hr=>(List.mem_append.1 hr).elim (HRS.out r) (fun h=>by rw [List.mem_singleton.1 h];exact hTP5)⟩)
    clear hTP5 hB5;go_wp2_with fail;go_roundw
    case rel=>exact ⟨k - 1,by go_num,Zo,HN⟩
    case measure=>exact mq51
   .have hk0:¬ (k:Int) > 0:=by omega
    obtain ⟨q0,q1,qf,r0,r1,rf⟩:=HBX.out _ _ _ _ _ HB.out;have hne:p≠w.heap.size:=by omega
    go_wp2_with fail;refine bodyPost_ret (v:=.agg #[.slice AS 3 cS,.slice A n c]) (by simp [results,Tryz.results6,go_sem,r0,r1,rf,q0,q1,qf]) rfl ?_;have hF:=RowBox.rrn (v0:=.slice AS 3 cS) (v1:=.slice A n c) HB.out HRL.out Zo;refine ⟨AS,cS,A,n,c,rs,rfl,⟨hF.2,fun b o s e=>(HB.out.sg.bd b o s e).1⟩,hF.1,by have:=HRL.out;omega,HRS.out,?_,?_⟩
    .exact HB.out.di.below (Below.setCell (Below.setCell (Below.refl _ _) (by show g+1≤w.heap.size;omega) _) (by show g+1≤w.heap.size;omega) _)
    .exact (HB.out.on.grown (Only.setCell _ _ _ _) (fun b e=>by cases e;exact Nat.le_refl _)).grown (Only.setCell _ _ _ _) (fun b e=>by cases e;exact Nat.le_refl _)
structure SysAt (lo:Nat) (w:World) (p:Nat) (AS:Option Addr) (cS:Nat) (B:Option Addr) (m d:Nat) (s:Sy):Prop where
 c0:w.cell? ⟨p,0,none⟩=some (.slice AS 3 cS)
 c1:w.cell? ⟨p,1,none⟩=some (.slice B m d)
 pl:lo≤p
 sg:RI w AS 3 s.ar
 so:∀ b o q,AS=some ⟨b,o,q⟩→lo≤b
 rr:RRn lo w B m s.rs
section
variable {lo:Nat} {w w':World} {p g:Nat} {AS:Option Addr} {cS:Nat} {B:Option Addr} {m d:Nat} {s:Sy}
theorem SysAt.ext (h:SysAt lo w p AS cS B m d s) (k:Ext w w'):SysAt lo w' p AS cS B m d s:=
 ⟨Ext.keep k h.c0,Ext.keep k h.c1,h.pl,h.sg.ext k,h.so,h.rr.ext k⟩
theorem SysAt.rd (h:SysAt lo w p AS cS B m d s):RdSyC w (.agg #[.slice AS 3 cS,.slice B m d]) s:=RdSyK.mk h.sg h.rr.rr
theorem SysAt.sig (h:SysAt lo w p AS cS B m d s):RdSig w (.agg #[.slice AS 3 cS]) s.ar:=RdSig.mk h.sg
theorem SysAt.mk' {A:Option Addr} {c:Nat} {rs:List Ru} {v:Value} (h1:RI w A 3 [2,1,0]∧∀ b o q,A=some ⟨b,o,q⟩→lo≤b) (h2:RRn lo w B m rs) (hl:lo≤w.heap.size):SysAt lo (w.alloc (.cells #[.slice A 3 c,.slice B m d] 32)) w.heap.size A c B m d ⟨[2,1,0],rs⟩:=
 ⟨by simp [go_sem],by simp [go_sem],hl,h1.1.ext ((Ext.refl w).alloc _),h1.2,h2.ext ((Ext.refl w).alloc _)⟩
end
section
variable {lo lo':Nat} {w w':World} {A:Option Addr} {n g:Nat} {xs:List Int}
end
theorem RawBy.ext {w w':World} {v:Value} {n:Nat} (h:RawBy w v n) (k:Ext w w'):RawBy w' v n:=by
 obtain ⟨A,c,e,h1,h2⟩:=h;refine ⟨A,c,e,h1,fun h=>?_⟩;obtain ⟨b,o,e2,h3⟩:=h2 h;exact ⟨b,o,e2,fun j hj=>by obtain ⟨y,h4,h5⟩:=h3 j hj;exact ⟨y,Ext.keep k h4,h5⟩⟩

