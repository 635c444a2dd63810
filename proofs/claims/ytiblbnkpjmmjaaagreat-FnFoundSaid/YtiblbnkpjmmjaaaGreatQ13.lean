/- -/
import Derived.Test.YtiblbnkpjmmjaaaGreatQ11
set_option maxRecDepth 100000
set_option maxHeartbeats 16000000
set_option linter.all false
namespace Go.Proofs.YtiblbnkpjmmjaaaGreat
open Go.RowKit
theorem c_slicesMin {v:Value} {t:List Int} {w:World} (h0:RdI w v t) (hne:1≤t.length) :
 Calls Tryz.prog 92 #[v] w fun e w'=>e=.returned (.int .i64 (minL t))∧w=w':=by
 obtain ⟨A,n,c,rfl,ha⟩:=h0;have hn:=ha.le;have hl:=ha.len;have hn1:1≤n:=by omega
 obtain ⟨b,o,x,rfl,hx,hcx⟩:=RI.at_ ha (show 0 < n by omega);have HA:=Lib.hid ha;have HL:=Lib.hid hl;have HX:=Lib.hid hx;rw [Nat.add_zero] at hcx;clear ha hl hx hne;go_enter Tryz.func92,Tryz.ntmps92;go_wp2;have e0:x=minL (t.take 1):=by
  have:=HX.out;cases t with
  | nil=>simp at this
  | cons y ys=>simp at this;simp [minL,this]
 have E0:=Lib.hid e0;clear e0;go_loop [3,4] (fun a i=>∃ k:Nat,i=.int .i64 k∧1≤k∧k≤n∧∃ y,a=.int .i64 y∧Hid (y=minL (t.take k))) (fun _ i=>n - (intOf i).toNat)
 case atStart=>exact ⟨1,rfl,Nat.le_refl _,hn1,x,rfl,E0.out⟩
 case round=>
  obtain ⟨k,rfl,hk1,hk,y,rfl,hy⟩:=hrel;by_cases hlt:k < n
  .obtain ⟨b',o',z,e',hz,hcz⟩:=RI.at_ HA.out hlt;cases e';have e1:minL (t.take (k+1))=if z < y then z else y:=by
    rw [take_snoc hz,minL_snoc (by intro e;have:=congrArg List.length e;rw [List.length_take,HL.out] at this;simp at this;omega),← hy.out]
   have E1:=Lib.hid e1;clear e1 hz;go_wp2
   all_goals
    go_round
    case rel=>exact ⟨k+1,by go_num,by omega,by omega,_,rfl,by show _=_;rw [E1.out];try first | rw [if_pos (by omega)] | rw [if_neg (by omega)]⟩
    case measure=>simp [intOf];omega
  .go_wp2;go_ret;exact ⟨ret_int (by rw [hy.out,List.take_of_length_le (by rw [HL.out];omega)]),rfl⟩
theorem z0q13 {p:Prop} (h:p:=by (first | (first | (with_reducible exact RdI.mk (RI.ext (Hid.out (by with_reducible assumption)) extX)) | (with_reducible exact RdI.ext (by with_reducible assumption) extX)) | fail | (with_reducible exact RdSig.mk (by (first | (with_reducible exact RI.ext (Hid.out (by with_reducible assumption)) extX)))) | (with_reducible exact RdSig.ext (by with_reducible assumption) extX))):p:=h
theorem c_iTermOk {v0 v1:Value} {ar t:List Int} {w:World} (h0:RdSig w v0 ar) (h1:RdI w v1 t) :
 Calls Tryz.prog 66 #[v0,v1] w fun e w'=>e=.returned (.bool (termOk ar t))∧Ext w w':=by
 obtain ⟨A,n,c,rfl,ha⟩:=h0;obtain ⟨B,m,d,rfl,hb⟩:=h1;have hm:=hb.le;have hl:=hb.len;have HA:=Lib.hid ha;have HB:=Lib.hid hb;have HL:=Lib.hid hl;clear ha hb hl;rcases hs:sigOk ar with _ | _
 .go_enter Tryz.func66,Tryz.ntmps66;go_wp2_with (go_at_call 35;(with_reducible refine (c_iSigOk (ar:=ar) z0q13).mono ?_);rintro e w1 ⟨rfl,hE1⟩;have hz1:=sz_of hE1;(try simp only [World.size_alloc,World.size_setCell,World.size_drew] at hz1);obtain ⟨hc1,hf1⟩:=bcell hE1)
  go_ret;exact ⟨ret_bool (termOk_sig hs).symm,extX⟩
 .have HS:=Lib.hid hs;by_cases hlen:1≤m∧m≤60
  .obtain ⟨hm1,hm60⟩:=hlen;have hne:t≠[]:=by intro e;have:=HL.out;rw [e] at this;simp at this;omega
   have hge:=minL_ge (m:=-24) hne;have hd1:decide ((m:Int)≤60)=true:=by simp;omega
   have hd2:decide ((0:Int) < (m:Int))=true:=by simp;omega
   have HGE:=Lib.hid hge;clear hge hne;by_cases hmin : -24≤minL t
   .have hd3:decide (-24≤minL t)=true:=by simpa using hmin
    have HM:=Lib.hid hmin;clear hmin;go_enter Tryz.func66,Tryz.ntmps66
    go_wp2_with (first
     | (go_at_call 35;(with_reducible refine (c_iSigOk (ar:=ar) z0q13).mono ?_);rintro e w1 ⟨rfl,hE1⟩;have hz1:=sz_of hE1;(try simp only [World.size_alloc,World.size_setCell,World.size_drew] at hz1);obtain ⟨hc1,hf1⟩:=bcell hE1)
     | (go_at_call 92;(with_reducible refine (c_slicesMin (t:=t) z0q13 (by rw [HL.out];exact hm1)).mono ?_);rintro e w2 ⟨rfl,rfl⟩)
     | (go_at_call 93;(with_reducible refine (c_endAt (p:=0) (ar:=ar) (t:=t) z0q13 z0q13 (sigOk_iff.1 HS.out) (by omega) (by omega)).mono ?_);rintro e w3 ⟨rfl,hE3⟩))
    go_ret;refine ⟨ret_bool ?_,extX⟩;by_cases hsc:scan (arI ar) t 1=some t.length
    .rw [termOk_iff.2 ⟨sigOk_iff.1 HS.out,by rw [HL.out];omega,HGE.out.1 HM.out,hsc⟩];have:=endF_len.2 hsc;show (endI ar t 0 == _)=_;unfold endI;rw [this,HL.out];simp
    .rw [termOk_f fun p=>hsc p.2.2.2];have:¬ endI ar t 0=(m:Int):=by rw [← HL.out];exact fun h=>hsc (endF_len.1 h)
     simpa using this
   .have HM:=Lib.hid hmin;have hd3:decide (-24≤minL t)=false:=by simpa using hmin
    clear hmin;go_enter Tryz.func66,Tryz.ntmps66
    go_wp2_with (first
     | (go_at_call 35;(with_reducible refine (c_iSigOk (ar:=ar) z0q13).mono ?_);rintro e w1 ⟨rfl,hE1⟩;have hz1:=sz_of hE1;(try simp only [World.size_alloc,World.size_setCell,World.size_drew] at hz1);obtain ⟨hc1,hf1⟩:=bcell hE1)
     | (go_at_call 92;(with_reducible refine (c_slicesMin (t:=t) z0q13 (by rw [HL.out];exact hm1)).mono ?_);rintro e w2 ⟨rfl,rfl⟩))
    go_ret;exact ⟨ret_bool (termOk_f fun p=>by have h1:=HGE.out.2 p.2.2.1;have h2:=HM.out;omega).symm,extX⟩
  .go_enter Tryz.func66,Tryz.ntmps66;go_wp2_with (go_at_call 35;(with_reducible refine (c_iSigOk (ar:=ar) z0q13).mono ?_);rintro e w1 ⟨rfl,hE1⟩;have hz1:=sz_of hE1;(try simp only [World.size_alloc,World.size_setCell,World.size_drew] at hz1);obtain ⟨hc1,hf1⟩:=bcell hE1)
   all_goals go_ret
   all_goals exact ⟨ret_bool (termOk_f fun p=>hlen (by have:=p.2.1;rw [HL.out] at this;exact this)).symm,extX⟩
theorem arS_none {ar:List Int} {x:Int} (h1:¬ (-24≤x∧x≤-1)) (h2:¬ (0≤x∧x≤(ar.length:Int) - 1)):arS ar x=none:=by
 unfold arS;rw [if_neg h1,if_neg (by omega)]
theorem arS_var {ar:List Int} {x:Int} (h1 : -24≤x∧x≤-1):arS ar x=some 0:=by unfold arS;rw [if_pos h1]
theorem arS_sym {ar:List Int} {x n:Int} (h2:0≤x) (h:ar[x.toNat]?=some n):arS ar x=some n.toNat:=by
 have:=(List.getElem?_eq_some_iff.1 h).1;unfold arS;rw [if_neg (by omega),if_pos (by omega),List.getD_eq_getElem?_getD,h];rfl
def optI:Option Nat→Int
 | none=>-1
 | some a=>a
theorem c_l1Arity {v:Value} {ar:List Int} {x:Int} {w:World} (h0:RdSig w v ar) (hs:SigP ar) :
 Calls Tryz.prog 110 #[v,.int .i64 x] w fun e w'=>e=.returned (.int .i64 (optI (arS ar x)))∧Ext w w':=by
 obtain ⟨A,n,c,rfl,ha⟩:=h0;have hn:=ha.le;have hl:=ha.len;by_cases h1 : -24≤x∧x≤-1
 .have e:=arS_var (ar:=ar) h1;have HE:=Lib.hid e;have H1:=Lib.hid h1;clear e h1 hl hs ha;go_enter Tryz.func110,Tryz.ntmps110;go_wp2_with (go_at_call 58;(with_reducible refine (s_l1In_t H1.out).mono ?_);rintro e w2 ⟨rfl,rfl⟩)
  go_ret;exact ⟨ret_int (by rw [HE.out];rfl),extX⟩
 .have hn1:1≤n:=by rw [← hl];exact hs.1
  by_cases h2:0≤x∧x≤(n:Int) - 1
  .obtain ⟨q,rfl⟩:=Int.eq_ofNat_of_zero_le h2.1;obtain ⟨b,o,y,rfl,hy,hcy⟩:=RI.at_ ha (show q < n by omega);have hy2:=hs.2.2 y (List.mem_of_getElem? hy);have e:=arS_sym (ar:=ar) (x:=(q:Int)) (by omega) (by rw [Int.toNat_natCast];exact hy);have HE:=Lib.hid e;have H1:=Lib.hid h1;have H2:=Lib.hid h2;have hqi:(q:Int) < (n:Int):=by omega
   have hbl:b < w.heap.size:=World.block_lt_of_cell? w _ hcy;clear e h1 h2 hl hs ha hy;go_enter Tryz.func110,Tryz.ntmps110
   go_wp2_with (first
    | (go_at_call 58;(with_reducible refine (s_l1In_f H1.out).mono ?_);rintro e w2 ⟨rfl,rfl⟩)
    | (go_at_call 58;(with_reducible refine (s_l1In_t H2.out).mono ?_);rintro e w2 ⟨rfl,rfl⟩))
   go_ret;exact ⟨ret_int (by rw [HE.out];show y=((y.toNat:Nat):Int);omega),extX⟩
  .have e:=arS_none (ar:=ar) h1 (by rw [hl];exact h2);have HE:=Lib.hid e;have H1:=Lib.hid h1;have H2:=Lib.hid h2;clear e h1 h2 hl hs ha;go_enter Tryz.func110,Tryz.ntmps110
   go_wp2_with (first
    | (go_at_call 58;(with_reducible refine (s_l1In_f H1.out).mono ?_);rintro e w2 ⟨rfl,rfl⟩)
    | (go_at_call 58;(with_reducible refine (s_l1In_f H2.out).mono ?_);rintro e w2 ⟨rfl,rfl⟩))
   go_ret;exact ⟨ret_int (by rw [HE.out];rfl),extX⟩
theorem optI_none {o:Option Nat} (h:o=none):optI o = -1:=by rw [h];rfl
theorem optI_some {o:Option Nat} {a:Nat} (h:o=some a):optI o=a:=by rw [h];rfl
theorem arS_le {ar:List Int} (h:SigP ar) {x:Int} {a:Nat} (hx:arS ar x=some a):a≤3:=arI_le h (by rw [← arS_arI (arS_lo hx)];exact hx)
theorem c_l1Arity' {v:Value} {ar:List Int} {x r:Int} {w:World} (hr:optI (arS ar x)=r) (h0:RdSig w v ar) (hs:SigP ar) :
 Calls Tryz.prog 110 #[v,.int .i64 x] w fun e w'=>e=.returned (.int .i64 r)∧Ext w w':=by rw [← hr];exact c_l1Arity h0 hs
theorem mq13 {p:Prop} (h:p:=by simp only [intOf];omega):p:=h
theorem c_l1End {v0 v1:Value} {ar t:List Int} {p:Int} {w:World} (h0:RdSig w v0 ar) (h1:RdI w v1 t) (hs:SigP ar) (hp0:0≤p) (hp:p≤t.length) :
 Calls Tryz.prog 90 #[v0,v1,.int .i64 p] w fun e w'=>e=.returned (.int .i64 (endS ar t p.toNat))∧Ext w w':=by
 obtain ⟨p0,rfl⟩:=Int.eq_ofNat_of_zero_le hp0;rw [Int.toNat_natCast];have hp:p0≤t.length:=by omega
 clear hp0;obtain ⟨A,n,c,rfl,ha⟩:=h0;obtain ⟨B,m,d,rfl,hb⟩:=h1;have hm:=hb.le;have hl:=hb.len;have HA:=Lib.hid ha;have HB:=Lib.hid hb;have HS:=Lib.hid hs;have HP:=Lib.hid hp;have HL:=Lib.hid hl;clear ha hb hs hp hl;go_enter Tryz.func90,Tryz.ntmps90;go_wp2;go_loopw [7,8] (fun x i wr=>∃ p nd:Nat,i=.int .i64 p∧x=.int .i64 ((nd:Int)+1)∧nd≤3 * p∧Hid (ScanAt (arS ar) t p0 p (nd+1))∧Ext (w.alloc (.cells #[.slice A n c] 29)) wr) (fun _ i wr=>m - (intOf i).toNat)
 case atStart=>exact ⟨p0,0,rfl,rfl,by omega,ScanAt.start HP.out,extX⟩
 case round=>
  obtain ⟨p,nd,rfl,rfl,hnd,hsc,hE2⟩:=hrel;have hpl:p≤m:=by have:=hsc.out.2.1;rw [HL.out] at this;exact this
  have hw:Ext w wr:=extX;have hb0:wr.cell? ⟨w.heap.size,0,none⟩=some (.slice A n c):=Ext.keep hE2 (by simp [go_sem]);by_cases hlt:p < m
  .obtain ⟨b,o,x,rfl,hx,hcx⟩:=RI.at_ (RI.ext HB.out hw) hlt;have HX:=Lib.hid hx;clear hx;have hlt':(p:Int) < (m:Int):=by omega
   have hp0':(0:Int)≤(p:Int):=by omega
   go_wp2_with fail;go_still_tail 5,(by kernel_rfl)
   change wpList _ _ _ _ _ wr.drew
   have hE1:Ext w wr.drew:=extX;rcases hf:arS ar x with _ | a
   .have HF:=Lib.hid (optI_none hf);have HO:=Lib.hid (hsc.out.bad HX.out hf);clear hf;go_wp2_with (go_at_call 110;(with_reducible refine (c_l1Arity' HF.out z0q13 HS.out).mono ?_);rintro e w3 ⟨rfl,hE3⟩)
    go_ret;exact ⟨ret_int HO.out.symm,extX⟩
   .have HF:=Lib.hid (optI_some hf);have ha3:=arS_le HS.out hf;have hst:=hsc.out.step HX.out hf;have HO:=Lib.hid hst;clear hf hst;have e1:((nd:Int)+1+a - 1)=(nd+a:Nat):=by omega
    by_cases hz:nd+a=0
    .have hnd0:nd=0:=by omega
     have ha0:a=0:=by omega
     subst hnd0 ha0;go_wp2_with (go_at_call 110;(with_reducible refine (c_l1Arity' HF.out z0q13 HS.out).mono ?_);rintro e w3 ⟨rfl,hE3⟩)
     go_ret;exact ⟨ret_int (by rw [show endS ar t p0=_ from HO.out.done];rfl),extX⟩
    .go_wp2_with (go_at_call 110;(with_reducible refine (c_l1Arity' HF.out z0q13 HS.out).mono ?_);rintro e w3 ⟨rfl,hE3⟩)
     go_roundw
     case rel=>exact ⟨p+1,nd+a - 1,by go_num,by congr 1;omega,by omega,Lib.hid (by rw [show nd+a - 1+1=nd+a by omega];exact HO.out),extX⟩
     case measure=>exact mq13
  .go_wp2;go_ret;exact ⟨ret_int (hsc.out.out (by rw [HL.out];omega)).symm,extX⟩
theorem endS_len {ar t:List Int}:endS ar t 0=t.length↔scan (arS ar) t 1=some t.length:=endF_len
theorem c_sTermOk {v0 v1:Value} {ar t:List Int} {w:World} (h0:RdSig w v0 ar) (h1:RdI w v1 t) :
 Calls Tryz.prog 64 #[v0,v1] w fun e w'=>e=.returned (.bool (termOk ar t))∧Ext w w':=by
 obtain ⟨A,n,c,rfl,ha⟩:=h0;obtain ⟨B,m,d,rfl,hb⟩:=h1;have hm:=hb.le;have hl:=hb.len;have HA:=Lib.hid ha;have HB:=Lib.hid hb;have HL:=Lib.hid hl;clear ha hb hl;cases hok:sigOk ar with
 | false=>
  go_enter Tryz.func64,Tryz.ntmps64;go_wp2_with (go_at_call 51;(with_reducible refine (c_sSigOk (ar:=ar) z0q13).mono ?_);rintro e w1 ⟨rfl,hE1⟩;have hz1:=sz_of hE1;(try simp only [World.size_alloc,World.size_setCell,World.size_drew] at hz1);obtain ⟨hc1,hf1⟩:=bcell hE1)
  go_ret;exact ⟨ret_bool (termOk_sig hok).symm,extX⟩
 | true=>
  have HS:=Lib.hid (sigOk_iff.1 hok);by_cases hlen:1≤m∧m≤60
  .have HLEN:=Lib.hid hlen;have hlen':(1:Int)≤(m:Int)∧(m:Int)≤60:=by omega
   have HL':=Lib.hid hlen';clear hlen';have hT:decide (endS ar t 0=(m:Int))=termOk ar t:=by
    by_cases hT:TermP ar t
    .rw [termOk_iff.2 hT];have:=endS_len.2 (termP_S.1 hT).2.2;rw [HL.out] at this
     simpa using this
    .rw [termOk_f hT];simp only [decide_eq_false_iff_not];intro hE;exact hT (termP_S.2 ⟨HS.out,by rw [HL.out];exact hlen,endS_len.1 (by rw [HL.out];exact hE)⟩)
   have HT:=Lib.hid hT;clear hT hlen;go_enter Tryz.func64,Tryz.ntmps64
   go_wp2_with (first
    | (go_at_call 51;(with_reducible refine (c_sSigOk (ar:=ar) z0q13).mono ?_);rintro e w1 ⟨rfl,hE1⟩;have hz1:=sz_of hE1;(try simp only [World.size_alloc,World.size_setCell,World.size_drew] at hz1);obtain ⟨hc1,hf1⟩:=bcell hE1)
    | (go_at_call 58;(with_reducible refine (s_l1In_t HL'.out).mono ?_);rintro e w2 ⟨rfl,rfl⟩)
    | (go_at_call 90;(with_reducible refine (c_l1End (p:=0) z0q13 z0q13 HS.out (by omega) (by omega)).mono ?_);rintro e w3 ⟨rfl,hE3⟩))
   all_goals (go_ret;exact ⟨ret_bool (by rw [← HT.out];first | rfl | simp),extX⟩)
  .have hlen':¬ ((1:Int)≤(m:Int)∧(m:Int)≤60):=by omega
   have HL':=Lib.hid hlen';have hT:=termOk_f (ar:=ar) (t:=t) fun p=>hlen (by have:=p.2.1;rw [HL.out] at this;exact this);have HT:=Lib.hid hT;clear hlen hlen' hT;go_enter Tryz.func64,Tryz.ntmps64
   go_wp2_with (first
    | (go_at_call 51;(with_reducible refine (c_sSigOk (ar:=ar) z0q13).mono ?_);rintro e w1 ⟨rfl,hE1⟩;have hz1:=sz_of hE1;(try simp only [World.size_alloc,World.size_setCell,World.size_drew] at hz1);obtain ⟨hc1,hf1⟩:=bcell hE1)
    | (go_at_call 58;(with_reducible refine (s_l1In_f HL'.out).mono ?_);rintro e w2 ⟨rfl,rfl⟩))
   go_ret;exact ⟨ret_bool HT.out.symm,extX⟩
end Go.Proofs.YtiblbnkpjmmjaaaGreat
namespace Go.Proofs.YtiblbnkpjmmjaaaGreat
def RankP (ar rk:List Int):Prop:=SigP ar∧rk.length=ar.length∧∀ i:Nat,i < rk.length→(i:Int)∈rk
noncomputable def rankOk (ar rk:List Int):Bool:=@decide (RankP ar rk) (Classical.propDecidable _)
theorem rankOk_iff {ar rk:List Int}:rankOk ar rk=true↔RankP ar rk:=by simp [rankOk]
theorem rankOk_f {ar rk:List Int} (h:¬ RankP ar rk):rankOk ar rk=false:=by simp only [rankOk,decide_eq_false_iff_not];exact h
theorem rankOk_sig {ar rk:List Int} (h:sigOk ar=false):rankOk ar rk=false:=rankOk_f fun a=>by rw [sigOk_iff.2 a.1] at h;cases h
theorem rankOk_len {ar rk:List Int} (h:¬ rk.length=ar.length):rankOk ar rk=false:=rankOk_f fun a=>h a.2.1
def upTo (n:Nat):List Int:=(List.range n).map fun (i:Nat)=>(i:Int)
theorem upTo_len (n:Nat):(upTo n).length=n:=by simp [upTo]
theorem mem_upTo {n:Nat} {x:Int}:x∈upTo n↔0≤x∧x < n:=by
 simp only [upTo,List.mem_map,List.mem_range];constructor
 .rintro ⟨i,hi,rfl⟩;omega
 .rintro ⟨h1,h2⟩;exact ⟨x.toNat,by omega,by omega⟩
theorem upTo_nodup (n:Nat):(upTo n).Nodup:=by
 unfold upTo List.Nodup;rw [List.pairwise_map];refine List.Pairwise.imp ?_ (List.nodup_range (n:=n));intro a b h e;exact h (by omega)
theorem rank_range {rk:List Int} (h:∀ i:Nat,i < rk.length→(i:Int)∈rk):∀ x∈rk,0≤x∧x < rk.length:=by
 intro x hx;apply Classical.byContradiction;intro hn;have hsub:upTo rk.length ⊆ rk.erase x:=by
  intro y hy;have hy':=mem_upTo.1 hy;have hm:y∈rk:=by have:=h y.toNat (by omega);rwa [show ((y.toNat:Nat):Int)=y by omega] at this
  exact (List.mem_erase_of_ne (by rintro rfl;exact hn hy')).2 hm
 have:=List.Nodup.length_le_of_subset (upTo_nodup _) hsub;rw [upTo_len,List.length_erase_of_mem hx] at this;have:0 < rk.length:=List.length_pos_of_mem hx;omega
theorem rank_distinct {rk:List Int} (h:∀ i:Nat,i < rk.length→(i:Int)∈rk) {i j:Nat} {x:Int} (hij:i < j) (hi:rk[i]?=some x) (hj:rk[j]?=some x):False:=by
 obtain ⟨hjl,ej⟩:=List.getElem?_eq_some_iff.1 hj;obtain ⟨hil,ei⟩:=List.getElem?_eq_some_iff.1 hi;have hsub:upTo rk.length ⊆ rk.eraseIdx j:=by
  intro y hy;have hy':=mem_upTo.1 hy;have hm:y∈rk:=by have:=h y.toNat (by omega);rwa [show ((y.toNat:Nat):Int)=y by omega] at this
  rw [List.mem_eraseIdx_iff_getElem];obtain ⟨k,hk,ek⟩:=List.mem_iff_getElem.1 hm;by_cases hkj:k=j
  .subst hkj;exact ⟨i,⟨hil,by omega,by rw [ei,← ek,ej]⟩⟩
  .exact ⟨k,⟨hk,hkj,ek⟩⟩
 have:=List.Nodup.length_le_of_subset (upTo_nodup _) hsub;rw [upTo_len,List.length_eraseIdx] at this;rw [if_pos hjl] at this;omega
theorem rank_all {rk:List Int} (h1:∀ x∈rk,0≤x∧x < rk.length) (h2:∀ (i j:Nat) (x:Int),i < j→rk[i]?=some x→rk[j]?=some x→False):∀ i:Nat,i < rk.length→(i:Int)∈rk:=by
 intro i hi;apply Classical.byContradiction;intro hn;have hnd:rk.Nodup:=by
  rw [List.Nodup,List.pairwise_iff_getElem];intro a b ha hb hab e;exact h2 a b rk[a] hab (List.getElem?_eq_getElem ha) (by rw [List.getElem?_eq_getElem hb,e])
 have hsub:rk ⊆ (upTo rk.length).erase i:=by
  intro x hx;refine (List.mem_erase_of_ne ?_).2 (mem_upTo.2 (h1 x hx));rintro rfl;exact hn hx
 have:=List.Nodup.length_le_of_subset hnd hsub;rw [List.length_erase_of_mem (mem_upTo.2 ⟨by omega,by omega⟩),upTo_len] at this;omega
structure Wt where
 var:Int
 sym:List Int
 rank:List Int
def WtAt (var:Int) (n:Nat) (s a r:Int):Prop:=(0≤s∧s≤20)∧(a=0→var≤s)∧(a=1→s=0→r=n - 1)
def WtP (ar:List Int) (wt:Wt):Prop:=RankP ar wt.rank∧wt.sym.length=ar.length∧(1≤wt.var∧wt.var≤20) ∧
 ∀ (j:Nat) (s a r:Int),wt.sym[j]?=some s→ar[j]?=some a→wt.rank[j]?=some r→WtAt wt.var wt.rank.length s a r
noncomputable def wtOk (ar:List Int) (wt:Wt):Bool:=@decide (WtP ar wt) (Classical.propDecidable _)
theorem wtOk_iff {ar:List Int} {wt:Wt}:wtOk ar wt=true↔WtP ar wt:=by simp [wtOk]
theorem wtOk_f {ar:List Int} {wt:Wt} (h:¬ WtP ar wt):wtOk ar wt=false:=by simp only [wtOk,decide_eq_false_iff_not];exact h
theorem wtOk_rank {ar:List Int} {wt:Wt} (h:rankOk ar wt.rank=false):wtOk ar wt=false:=wtOk_f fun a=>by rw [rankOk_iff.2 a.1] at h;cases h
theorem wtOk_len {ar:List Int} {wt:Wt} (h:¬ wt.sym.length=ar.length):wtOk ar wt=false:=wtOk_f fun a=>h a.2.1
theorem wtOk_var {ar:List Int} {wt:Wt} (h:¬ (1≤wt.var∧wt.var≤20)):wtOk ar wt=false:=wtOk_f fun a=>h a.2.2.1
theorem wtOk_at {ar:List Int} {wt:Wt} {j:Nat} {s a r:Int} (h1:wt.sym[j]?=some s) (h2:ar[j]?=some a) (h3:wt.rank[j]?=some r) (h:¬ WtAt wt.var wt.rank.length s a r):wtOk ar wt=false:=
 wtOk_f fun p=>h (p.2.2.2 j s a r h1 h2 h3)
theorem wtOk_all {ar:List Int} {wt:Wt} (h1:rankOk ar wt.rank=true) (h2:wt.sym.length=ar.length) (h3:1≤wt.var∧wt.var≤20)
 (h:∀ (j:Nat) (s a r:Int),j < wt.sym.length→wt.sym[j]?=some s→ar[j]?=some a→wt.rank[j]?=some r→WtAt wt.var wt.rank.length s a r):wtOk ar wt=true:=
 wtOk_iff.2 ⟨rankOk_iff.1 h1,h2,h3,fun j s a r e1 e2 e3=>h j s a r (List.getElem?_eq_some_iff.1 e1).1 e1 e2 e3⟩
open Go.RowKit
def idx (xs:List Int) (x:Int):Int:=if x∈xs then (xs.idxOf x:Int) else -1
theorem idx_at {xs:List Int} {x:Int} {k:Nat} (hx:xs[k]?=some x) (h:∀ j,j < k→xs[j]?≠some x):idx xs x=k:=by
 unfold idx;rw [if_pos (List.mem_of_getElem? hx)];obtain ⟨hk,e⟩:=List.getElem?_eq_some_iff.1 hx;have hm:x∈xs:=List.mem_of_getElem? hx;have hl:=List.idxOf_lt_length_of_mem hm;have hg:xs[xs.idxOf x]?=some x:=by rw [List.getElem?_eq_getElem hl,List.getElem_idxOf hl]
 rcases Nat.lt_trichotomy (xs.idxOf x) k with h1 | h1 | h1
 .exact absurd hg (h _ h1)
 .rw [h1]
 .exfalso
  have:=List.not_of_lt_findIdx (p:=(· == x)) (xs:=xs) (i:=k) h1;simp [e] at this
theorem idx_none {xs:List Int} {x:Int} (h:∀ j,j < xs.length→xs[j]?≠some x):idx xs x = -1:=by
 unfold idx;rw [if_neg];intro hm;obtain ⟨j,hj,e⟩:=List.mem_iff_getElem.1 hm;exact h j hj (by rw [List.getElem?_eq_getElem hj,e])
theorem idx_bd (xs:List Int) (x:Int) : -1≤idx xs x∧idx xs x≤xs.length:=by
 unfold idx;split
 .have:=List.idxOf_le_length (a:=x) (l:=xs);omega
 .omega
theorem idx_has {xs:List Int} {x:Int}:decide (0≤idx xs x)=decide (x∈xs):=by
 unfold idx;by_cases h:x∈xs
 .rw [if_pos h];simp [h]
 .rw [if_neg h];simp [h]
theorem c_slicesIndex {v:Value} {xs:List Int} {x:Int} {w:World} (h0:RdI w v xs) :
 Calls Tryz.prog 94 #[v,.int .i64 x] w fun e w'=>e=.returned (.int .i64 (idx xs x))∧w=w':=by
 obtain ⟨A,n,c,rfl,ha⟩:=h0;have hn:=ha.le;have HA:=Lib.hid ha;clear ha;go_enter Tryz.func94,Tryz.ntmps94;go_wp2;go_loop [8] (fun i=>∃ k:Nat,i=.int .i64 k∧k≤n∧Hid (∀ j,j < k→xs[j]?≠some x)) (fun i=>n - (intOf i).toNat)
 case atStart=>exact ⟨0,rfl,Nat.zero_le _,fun j hj=>by omega⟩
 case round=>
  obtain ⟨k,rfl,hk,hp⟩:=hrel;by_cases hlt:k < n
  .obtain ⟨b,o,y,rfl,hy,hcy⟩:=RI.at_ HA.out hlt;have HY:=Lib.hid hy;clear hy;by_cases hxy:x=y
   .subst hxy;have hb:(x == x)=true:=by simp
    go_wp2;go_ret;exact ⟨ret_int (idx_at HY.out hp.out).symm,rfl⟩
   .have hb:(x == y)=false:=by simpa using hxy
    go_wp2;go_round
    case rel=>
     refine ⟨k+1,by go_num,by omega,fun j hj=>?_⟩;rcases Nat.lt_or_ge j k with h | h
     .exact hp.out j h
     .obtain rfl:j=k:=by omega
      rw [HY.out];intro e;injection e with e;exact hxy e.symm
    case measure=>simp [intOf];omega
  .go_wp2;go_ret;exact ⟨ret_int (idx_none fun j hj=>hp.out j (by rw [HA.out.len] at hj;omega)).symm,rfl⟩
theorem c_slicesContains {v:Value} {xs:List Int} {x:Int} {w:World} (h0:RdI w v xs) :
 Calls Tryz.prog 67 #[v,.int .i64 x] w fun e w'=>e=.returned (.bool (decide (x∈xs)))∧w=w':=by
 go_enter Tryz.func67,Tryz.ntmps67;go_wp2_with (go_at_call 94;(with_reducible refine (c_slicesIndex (x:=x) h0).mono ?_);rintro e w2 ⟨rfl,rfl⟩)
 go_ret;exact ⟨ret_bool idx_has,rfl⟩
theorem c_iRankOk {v0 v1:Value} {ar rk:List Int} {w:World} (h0:RdSig w v0 ar) (h1:RdI w v1 rk) :
 Calls Tryz.prog 48 #[v0,v1] w fun e w'=>e=.returned (.bool (rankOk ar rk))∧Ext w w':=by
 obtain ⟨A,n,c,rfl,ha⟩:=h0;obtain ⟨B,m,d,rfl,hb⟩:=h1;have hn:=ha.le;have hm:=hb.le;have HA:=Lib.hid ha;have HB:=Lib.hid hb;clear ha hb;rcases hs:sigOk ar with _ | _
 .go_enter Tryz.func48,Tryz.ntmps48;go_wp2_with (go_at_call 35;(with_reducible refine (c_iSigOk (ar:=ar) z0q13).mono ?_);rintro e w1 ⟨rfl,hE1⟩;have hz1:=sz_of hE1;(try simp only [World.size_alloc,World.size_setCell,World.size_drew] at hz1);obtain ⟨hc1,hf1⟩:=bcell hE1)
  go_ret;exact ⟨ret_bool (rankOk_sig hs).symm,extX⟩
 .by_cases hnm:m=n
  .subst hnm;have hnn:((m:Int) != (m:Int))=false:=by simp
   have HS:=Lib.hid hs;go_enter Tryz.func48,Tryz.ntmps48;go_wp2_with (go_at_call 35;(with_reducible refine (c_iSigOk (ar:=ar) z0q13).mono ?_);rintro e w1 ⟨rfl,hE1⟩;have hz1:=sz_of hE1;(try simp only [World.size_alloc,World.size_setCell,World.size_drew] at hz1);obtain ⟨hc1,hf1⟩:=bcell hE1)
   go_loop [19] (fun i=>∃ k:Nat,i=.int .i64 k∧k≤m∧Hid (∀ j:Nat,j < k→(j:Int)∈rk)) (fun i=>m - (intOf i).toNat)
   case atStart=>exact ⟨0,rfl,Nat.zero_le _,fun j hj=>by omega⟩
   case round=>
    obtain ⟨k,rfl,hk,hp⟩:=hrel;by_cases hlt:k < m
    .by_cases hin:(k:Int)∈rk
     .have hd:decide ((k:Int)∈rk)=true:=by simpa using hin
      have HI:=Lib.hid hin;clear hin;go_wp2_with (go_at_call 67;(with_reducible refine (c_slicesContains (xs:=rk) (x:=(k:Int)) z0q13).mono ?_);rintro e w2 ⟨rfl,rfl⟩)
      go_round
      case rel=>
       refine ⟨k+1,by go_num,by omega,fun j hj=>?_⟩;rcases Nat.lt_or_ge j k with h | h
       .exact hp.out j h
       .obtain rfl:j=k:=by omega
        exact HI.out
      case measure=>simp [intOf];omega
     .have hd:decide ((k:Int)∈rk)=false:=by simpa using hin
      have HI:=Lib.hid hin;clear hin;go_wp2_with (go_at_call 67;(with_reducible refine (c_slicesContains (xs:=rk) (x:=(k:Int)) z0q13).mono ?_);rintro e w2 ⟨rfl,rfl⟩)
      go_ret;exact ⟨ret_bool (rankOk_f fun p=>HI.out (p.2.2 k (by rw [HB.out.len];exact hlt))).symm,extX⟩
    .go_wp2;go_ret;refine ⟨ret_bool (rankOk_iff.2 ⟨sigOk_iff.1 HS.out,?_,fun i hi=>hp.out i ?_⟩).symm,extX⟩
     .rw [HA.out.len,HB.out.len]
     .rw [HB.out.len] at hi;omega
  .have hnn:((m:Int) != (n:Int))=true:=by simp;omega
   go_enter Tryz.func48,Tryz.ntmps48;go_wp2_with (go_at_call 35;(with_reducible refine (c_iSigOk (ar:=ar) z0q13).mono ?_);rintro e w1 ⟨rfl,hE1⟩;have hz1:=sz_of hE1;(try simp only [World.size_alloc,World.size_setCell,World.size_drew] at hz1);obtain ⟨hc1,hf1⟩:=bcell hE1)
   go_ret;exact ⟨ret_bool (rankOk_len (by rw [HA.out.len,HB.out.len];omega)).symm,extX⟩
theorem c_sRankOk {v0 v1:Value} {ar rk:List Int} {w:World} (h0:RdSig w v0 ar) (h1:RdI w v1 rk) :
 Calls Tryz.prog 56 #[v0,v1] w fun e w'=>e=.returned (.bool (rankOk ar rk))∧Ext w w':=by
 obtain ⟨A,n,c,rfl,ha⟩:=h0;obtain ⟨B,m,d,rfl,hb⟩:=h1;have hn:=ha.le;have hm:=hb.le;have HA:=Lib.hid ha;have HB:=Lib.hid hb;clear ha hb;rcases hs:sigOk ar with _ | _
 .go_enter Tryz.func56,Tryz.ntmps56;go_wp2_with (go_at_call 51;(with_reducible refine (c_sSigOk (ar:=ar) z0q13).mono ?_);rintro e w1 ⟨rfl,hE1⟩;have hz1:=sz_of hE1;(try simp only [World.size_alloc,World.size_setCell,World.size_drew] at hz1);obtain ⟨hc1,hf1⟩:=bcell hE1)
  go_ret;exact ⟨ret_bool (rankOk_sig hs).symm,extX⟩
 .by_cases hnm:m=n
  .subst hnm;have hnn:((m:Int) != (m:Int))=false:=by simp
   have HS:=Lib.hid hs;go_enter Tryz.func56,Tryz.ntmps56;go_wp2_with (go_at_call 51;(with_reducible refine (c_sSigOk (ar:=ar) z0q13).mono ?_);rintro e w1 ⟨rfl,hE1⟩;have hz1:=sz_of hE1;(try simp only [World.size_alloc,World.size_setCell,World.size_drew] at hz1);obtain ⟨hc1,hf1⟩:=bcell hE1)
   go_loopw [5,6] (fun i _ wr=>∃ k:Nat,i=.int .i64 k∧k≤m∧Hid (∀ j x,j < k→rk[j]?=some x→0≤x∧x < m)∧Hid (∀ (i j:Nat) (x:Int),i < j→j < k→rk[i]?=some x→rk[j]?=some x→False)∧Ext w1 wr) (fun i _ _=>m - (intOf i).toNat)
   case atStart=>exact ⟨0,rfl,Nat.zero_le _,fun j x hj=>by omega,fun i j x hij hj=>by omega,extX⟩
   case round=>
    obtain ⟨k,rfl,hk,hp,hp2,hE2⟩:=hrel;have hw:Ext w wr:=extX;by_cases hlt:k < m
    .obtain ⟨b,o,x,rfl,hx,hcx⟩:=RI.at_ (RI.ext HB.out hw) hlt;have HX:=Lib.hid hx;clear hx;have hlt':(k:Int) < (m:Int):=by omega
     by_cases hin:0≤x∧x≤(m:Int) - 1
     .go_wp2_with (go_at_call 58;(with_reducible refine (s_l1In_t hin).mono ?_);rintro e w2 ⟨rfl,rfl⟩)
      obtain ⟨wo,rfl⟩:∃ wo:World,wo=wr:=⟨_,rfl⟩;go_loopw [6] (fun i wq=>∃ q:Nat,i=.int .i64 q∧q≤k∧Hid (∀ j,j < q→rk[j]?≠some x)∧Ext wo wq) (fun i _=>k - (intOf i).toNat)
      case atStart=>exact ⟨0,rfl,Nat.zero_le _,fun j hj=>by omega,extX⟩
      case round=>
       obtain ⟨q,rfl,hq,hp3,hE3⟩:=hrel;have hcx2:wr.cell? ⟨b,o+k,none⟩=some (.int .i64 x):=Ext.keep hE3 hcx;by_cases hqk:q < k
       .obtain ⟨b2,o2,y,hA2,hy,hcy⟩:=RI.at_ (RI.ext HB.out (extX:Ext w wr)) (show q < m by omega);cases hA2;have HY:=Lib.hid hy;clear hy;have hq1:(q:Int) < (m:Int):=by omega
        by_cases hyx:y=x
        .subst hyx;have hb1:(y == y)=true:=by simp
         go_wp2;go_quiet (fail)
         go_wp2;go_ret;exact ⟨ret_bool (rankOk_f fun p=>rank_distinct p.2.2 hqk HY.out HX.out).symm,extX⟩
        .have hb1:(y == x)=false:=by simpa using hyx
         go_wp2;go_quiet (fail)
         go_wp2;go_roundw
         case rel=>
          refine ⟨q+1,by go_num,by omega,fun j hj=>?_,extX⟩;rcases Nat.lt_or_ge j q with h | h
          .exact hp3.out j h
          .obtain rfl:j=q:=by omega
           rw [HY.out];intro e;injection e with e;exact hyx e
         case measure=>simp [intOf];omega
       .go_wp2;go_roundw
        case rel=>
         refine ⟨k+1,by go_num,by omega,fun j y hj hy=>?_,fun i j y hij hj hi hy=>?_,extX⟩
         .rcases Nat.lt_or_ge j k with h | h
          .exact hp.out j y h hy
          .obtain rfl:j=k:=by omega
           rw [HX.out] at hy;cases hy;omega
         .rcases Nat.lt_or_ge j k with h | h
          .exact hp2.out i j y hij h hi hy
          .obtain rfl:j=k:=by omega
           rw [HX.out] at hy;cases hy;exact hp3.out i (by omega) hi
        case measure=>simp [intOf];omega
     .go_wp2_with (go_at_call 58;(with_reducible refine (s_l1In_f hin).mono ?_);rintro e w2 ⟨rfl,rfl⟩)
      go_ret;exact ⟨ret_bool (rankOk_f fun p=>hin (by have:=rank_range p.2.2 x (List.mem_of_getElem? HX.out);rw [HB.out.len] at this;omega)).symm,extX⟩
    .go_wp2;go_ret;refine ⟨ret_bool (rankOk_iff.2 ⟨sigOk_iff.1 HS.out,?_,rank_all (fun x hx=>?_) fun i j x hij hi hj=>hp2.out i j x hij ?_ hi hj⟩).symm,extX⟩
     .rw [HA.out.len,HB.out.len]
     .obtain ⟨j,hj,e⟩:=List.mem_iff_getElem.1 hx;have:=hp.out j x (by rw [HB.out.len] at hj;omega) (by rw [List.getElem?_eq_getElem hj,e]);rw [HB.out.len];exact this
     .have:=(List.getElem?_eq_some_iff.1 hj).1;rw [HB.out.len] at this;omega
  .have hnn:((m:Int) != (n:Int))=true:=by simp;omega
   go_enter Tryz.func56,Tryz.ntmps56;go_wp2_with (go_at_call 51;(with_reducible refine (c_sSigOk (ar:=ar) z0q13).mono ?_);rintro e w1 ⟨rfl,hE1⟩;have hz1:=sz_of hE1;(try simp only [World.size_alloc,World.size_setCell,World.size_drew] at hz1);obtain ⟨hc1,hf1⟩:=bcell hE1)
   go_ret;exact ⟨ret_bool (rankOk_len (by rw [HA.out.len,HB.out.len];omega)).symm,extX⟩

