/- -/
import Derived.Laws.CopyOwn
import Derived.Test.YtiblbnkpjmmjaaaGreatQ38
set_option maxRecDepth 100000
set_option maxHeartbeats 16000000
set_option linter.all false
namespace Go.Proofs.YtiblbnkpjmmjaaaGreat
open Go.RowKit
theorem c_Mul64 {n:Nat} {w:World} (hn:n≤40):Calls Tryz.prog 96 #[.int .u64 1,.int .u64 (n:Int)] w fun e w'=>e=.returned (.tuple #[.int .u64 0,.int .u64 (n:Int)])∧w=w':=by
 go_enter Tryz.func96,Tryz.ntmps96;go_wp2;refine bodyPost_ret (v:=.tuple #[.int .u64 0,.int .u64 (n:Int)]) ?_ rfl ⟨rfl,rfl⟩;rcases (show n=0∨n=1∨n=2∨n=3∨n=4∨n=5∨n=6∨n=7∨n=8∨n=9∨n=10∨n=11∨n=12∨n=13∨n=14∨n=15∨n=16∨n=17∨n=18∨n=19∨n=20∨n=21∨n=22∨n=23∨n=24∨n=25∨n=26∨n=27∨n=28∨n=29∨n=30∨n=31∨n=32∨n=33∨n=34∨n=35∨n=36∨n=37∨n=38∨n=39∨n=40 from by omega) with rfl | rfl | rfl | rfl | rfl | rfl | rfl | rfl | rfl | rfl | rfl | rfl | rfl | rfl | rfl | rfl | rfl | rfl | rfl | rfl | rfl | rfl | rfl | rfl | rfl | rfl | rfl | rfl | rfl | rfl | rfl | rfl | rfl | rfl | rfl | rfl | rfl | rfl | rfl | rfl | rfl
 all_goals (simp [results,Tryz.results96,go_sem];try decide)
theorem c_Mul {n:Nat} {w:World} (hn:n≤40):Calls Tryz.prog 68 #[.int .u64 1,.int .u64 (n:Int)] w fun e w'=>e=.returned (.tuple #[.int .u64 0,.int .u64 (n:Int)])∧w=w':=by
 go_enter Tryz.func68,Tryz.ntmps68;go_wp2_with fail
 (with_reducible refine (c_Mul64 hn).mono ?_);rintro e w2 ⟨rfl,rfl⟩;go_wp2_with fail;exact bodyPost_ret (v:=.tuple #[.int .u64 0,.int .u64 (n:Int)]) (by simp [results,Tryz.results68,go_sem]) rfl ⟨rfl,rfl⟩
def fillR (x:Int) (p n:Nat):List Value:=(List.replicate p x++List.replicate (n - p) 0).map (Value.int .i64)
theorem fill_len (x:Int) {p n:Nat} (h:p≤n):(fillR x p n).length=n:=by simp [fillR];omega
theorem fill_get {x:Int} {p n j:Nat} (h:j < p):(fillR x p n)[j]?=some (.int .i64 x):=by
 unfold fillR;rw [List.getElem?_map,List.getElem?_append_left (by simpa using h),List.getElem?_replicate,if_pos h];rfl
theorem fill_splice {x:Int} {p k n:Nat} (h:p+k≤n):splice (fillR x p n) p ((List.replicate k x).map (Value.int .i64))=fillR x (p+k) n:=by
 unfold splice fillR;rw [← List.map_take,← List.map_drop,← List.map_append,← List.map_append]
 congr 1
 rw [List.take_append_of_le_length (by simp),List.take_of_length_le (by simp),List.length_map,List.length_replicate,List.drop_append,List.drop_of_length_le (by simp),List.nil_append,List.drop_replicate,List.length_replicate,← List.append_assoc,List.replicate_append_replicate]
 congr 2
 omega
theorem fill_ints {w:World} {g n B:Nat} {x:Int} (hg:w.heap[g]?=some (.cells (fillR x n n).toArray 2 (0,0))) (hB:B≤g) (hn:n≤40):OwI w B (some ⟨g,0,none⟩) n n (List.replicate n x):=by
 refine ⟨Zo,by simp,.inr ⟨g,n,(fillR x n n).toArray,rfl,hB,hg,Nat.le_refl _,by unfold maxLen;omega,by simp [fillR],?_⟩⟩;rw [List.toList_toArray,List.take_of_length_le (by simp [fillR])];simp [fillR]
theorem fill_pos {w:World} {x:Int} {p n k g:Nat} {ds:List Value} (hds:ds=(List.replicate k x).map (Value.int .i64)) (hk:k≤p) (hg:w.heap[g]?=some (.cells (fillR x p n).toArray 2 (0,0))) :
 0 < ds.length→(some ⟨g,0+p,none⟩:Option Addr)=some ⟨g,0+p,none⟩∧∃ ad,(some ⟨g,0,none⟩:Option Addr)=some ad∧∀ j v,ds[j]?=some v→w.cell? (ad.add j)=some v:=fun _=>⟨rfl,_,rfl,fun j v hj=>by
 rw [hds,List.getElem?_map,List.getElem?_replicate] at hj;split at hj
 .rename_i hjl
  simp at hj;subst hj;have h1:w.cell? ⟨g,j,none⟩=some (.int .i64 x):=by
   rw [cell_of_row w _ _ _ _ (0,0) hg,List.getElem?_toArray];exact fill_get Zo
  by_cases hj0:j=0
  .subst hj0;simpa [Addr.add] using h1
  .simpa [Addr.add,hj0] using h1
 .cases hj⟩
theorem fill_made {w:World} {g B n:Nat} {x:Int} (h:w.ownsRow B 2 1 (.slice (some ⟨g,0,none⟩) n n) n (madeCells #[Value.int .i64 0] n).toList):w.heap[g]?=some (.cells (fillR x 0 n).toArray 2 (0,0)):=by
 rcases h.2 with ⟨h2,_⟩ | ⟨g',cap,cur,hv,hg,hh,h1,h2,h3,h4⟩
 .cases h2
 .cases hv;rw [hh];have e:cur.toList=fillR x 0 n:=by
   rw [List.take_of_length_le (by simp [h3])] at h4;rw [h4,madeInts];simp [fillR]
  rw [← e]
theorem mq39 {p:Prop} (h:p:=by simp only [intOf];omega):p:=h
theorem c_Repeat {b o c n:Nat} {x:Int} {w:World} (h0:w.cell? ⟨b,o,none⟩=some (.int .i64 x)) (hc:1≤c∧c≤9223372036854775807) (hn:n≤40) :
 Calls Tryz.prog 46 #[.slice (some ⟨b,o,none⟩) 1 c,.int .i64 (n:Int)] w (NewI w (List.replicate n x)):=by
 have hn0:¬ (n:Int) < 0:=by omega
 have hw1:IntKind.u64.wrap (n:Int)=(n:Int):=by unfold IntKind.wrap;simp [IntKind.bits];omega
 have hw2:IntKind.i64.wrap (n:Int)=(n:Int):=IntWalk.i64_in _ Zo;have hmx:¬ ((n:Int) > 9223372036854775807):=by omega
 obtain ⟨i0,hii,hiz,his,hib⟩:=info_parts int64_info;go_enter Tryz.func46,Tryz.ntmps46;go_wp2_with fail
 (with_reducible refine (c_Mul hn).mono ?_);rintro e w2 ⟨rfl,rfl⟩;have hsz:(Tryz.prog.info? 2).map (·.size)=some 1:=by rw [hii];simp [his]
 go_wp2_with (at_make;refine wpList_make_full _ rfl _ _ 27 rfl w.heap.size 2 i0 _ 1 Tryz.underlying27 hii hiz his _ _ _ _ n rfl rfl rfl rfl (by rw [hib];omega) (by simp only [maxLen];omega) (Nat.le_refl _) ?_)
 intro w3 hown0 hg3;have hE3:Ext w w3:=Ext.grown (Ext.refl _) hg3 (fun k hk=>by cases hk);have HH:=Zh (fill_made (x:=x) hown0);have h30:=Ext.keep hE3 h0;obtain ⟨cs,hcs⟩:∃ cs,cs=(List.replicate (min 1 n) x).map (Value.int .i64):=⟨_,rfl⟩;have hcl:cs.length=min 1 n:=by rw [hcs];simp
 have HCS:=Zh hcs;clear hown0 hg3 hcs;have hpos:0 < cs.length→(some ⟨w.heap.size,0,none⟩:Option Addr)=some ⟨w.heap.size,0,none⟩∧∃ ad,(some ⟨b,o,none⟩:Option Addr)=some ad∧∀ j v,cs[j]?=some v→w3.cell? (ad.add j)=some v:=fun _=>⟨rfl,_,rfl,fun j v hj=>by
  rw [HCS.out,List.getElem?_map,List.getElem?_replicate] at hj;split at hj
  .obtain rfl:j=0:=by omega
   simp at hj;subst hj;simpa [Addr.add] using h30
  .cases hj⟩
 have hone:∀ v∈cs,v.oneCell'=true:=fun v hv=>by
  rw [HCS.out] at hv;obtain ⟨y,_,rfl⟩:=List.mem_map.1 hv;rfl
 have hfit:0+cs.length≤(fillR x 0 n).length:=by rw [fill_len x (Nat.zero_le n),hcl];omega
 have HS3:=Zh (show splice (fillR x 0 n) 0 cs=fillR x (min 1 n) n by rw [HCS.out,fill_splice Zo,Nat.zero_add]);go_wp2_with (refine wpList_copy_splice rfl (.tmp 31) (.tmp 32) 27 27 rfl 2 Tryz.underlying27 hsz _ _ _ _ _ _ rfl rfl w.heap.size 0 (fillR x 0 n) 2 HH.out cs hcl hpos hfit hone w.heap.size w hE3 (Nat.le_refl _) ?_)
 intro w4 HG4 hE4;rw [HS3.out] at HG4;clear hpos hone hfit;go_wp2;go_loopw [8] (fun i wr=>∃ p:Nat,i=.int .i64 p∧p≤n∧(p=0→n=0)∧Hid (wr.heap[w.heap.size]?=some (.cells (fillR x p n).toArray 2 (0,0)))∧Ext w wr) (fun i _=>n - (intOf i).toNat)
 case atStart=>exact ⟨min 1 n,rfl,Zo,Zo,HG4,hE4⟩
 case round=>
  obtain ⟨p,rfl,hp,hp0,hRow,hE⟩:=hrel;by_cases hlt:p < n
  .have hpi:(p:Int) < (n:Int):=by omega
   have hp0i:(0:Int)≤(p:Int):=by omega
   obtain ⟨ds,hds⟩:∃ ds,ds=(List.replicate (min p (n - p)) x).map (Value.int .i64):=⟨_,rfl⟩;have hdl:ds.length=min p (n - p):=by rw [hds];simp
   have HDS:=Zh hds;clear hds;have hone:∀ v∈ds,v.oneCell'=true:=fun v hv=>by
    rw [HDS.out] at hv;obtain ⟨y,_,rfl⟩:=List.mem_map.1 hv;rfl
   have hfit:p+ds.length≤(fillR x p n).length:=by rw [fill_len x hp,hdl];omega
   have HS3:=Zh (show splice (fillR x p n) p ds=fillR x (p+min p (n - p)) n by rw [HDS.out,fill_splice Zo]);have hpn:¬ n=p:=by omega
   have hwp:IntKind.i64.wrap ((p:Int)+((min p (n - p):Nat):Int))=(p:Int)+((min p (n - p):Nat):Int):=IntWalk.i64_in _ Zo;have hgi:goInt ds.length=.int .i64 ((min p (n - p):Nat):Int):=by rw [hdl];rfl
   go_wp2_with fail;refine wp_region_held_drew (S:=(fun w'=>Ext w w')) Zk ?_ (fun hH=>?_)
   .exact hE.drew
   refine s6Z0 0 (.int .i64 (p:Int)) 38 1 (.slice (some ⟨w.heap.size,0,none⟩) n n) 39 2 (.int .i64 (p:Int)) 40 3 (.slice (some ⟨w.heap.size,0+p,none⟩) (n - p) (n - p)) 41 4 (.slice (some ⟨w.heap.size,0,none⟩) n n) 42 5 (.int .i64 (p:Int)) 43 hH ?_;refine s1Z0 6 (.slice (some ⟨w.heap.size,0,none⟩) p n) 44 hH ?_;refine wpAnyH_ready (rs:=[7]) Zk (by simp) (.cons rfl (fun K hK=>?_) .nil);refine step_copy_splice (o:=⟨some 45,_,_,_,_,_⟩) rfl (.tmp 41) (.tmp 44) 27 27 rfl 2 Tryz.underlying27 hsz _ _ _ _ _ _ rfl rfl w.heap.size (0+p) (fillR x p n) 2 hRow.out ds hdl (fill_pos HDS.out Zo (w:=wr.drew) hRow.out) (by rw [Nat.zero_add];exact hfit) hone w.heap.size w hE.drew (Nat.le_refl _) ?_;intro w5 HG5 hE9;refine hK.out _ _ hE9 (fun hH9=>?_);clear hK hH;rename _=>hH;try simp only [Act.put,Zl]
   refine s2Z0 8 (.int .i64 ((p+min p (n - p):Nat):Int)) 46 9 (.int .i64 ((p+min p (n - p):Nat):Int)) 8 hH ?_;refine wpAnyH_done Zk ?_ _;rw [Nat.zero_add,HS3.out] at HG5;go_wp2;go_roundw
   case rel=>exact ⟨p+min p (n - p),rfl,Zo,Zo,HG5,hH⟩
   case measure=>exact mq39
  .obtain rfl:p=n:=by omega
   go_wp2;go_ret;exact ⟨_,_,_,rfl,fill_ints hRow.out (Nat.le_refl _) hn,hE⟩
theorem c_repeated {n:Nat} {x:Int} {w:World} (hn:n≤40):Calls Tryz.prog 21 #[.int .i64 x,.int .i64 (n:Int)] w (NewI w (List.replicate n x)):=by
 go_enter Tryz.func21,Tryz.ntmps21;go_wp2_with fail
 (with_reducible refine (c_Repeat (b:=w.heap.size) (o:=0) (c:=1) (x:=x) (by simp [go_sem]) Zo hn).mono ?_);rintro e w2 ⟨A,n2,c2,rfl,hO,hE⟩;have HO:=Zh hO;clear hO;go_wp2_with fail;go_ret;exact ⟨A,n2,c2,rfl,HO.out.lower (by simp [go_sem]),extX⟩
noncomputable def fwO (s:Sy) (most:Int):Option (List Int):=
 @ite _ (sysOk s=true∧0≤triW s.ar most) (Classical.propDecidable _) (srch (TW s s.ar.length) (List.replicate s.ar.length 0) (List.replicate s.ar.length most) (cnt (List.replicate s.ar.length 0) (List.replicate s.ar.length most) - rkU (List.replicate s.ar.length 0) (List.replicate s.ar.length 0) (List.replicate s.ar.length most)) (List.replicate s.ar.length 0)) none
theorem fwO_no {s:Sy} {most:Int} (h:¬ (sysOk s=true∧0≤triW s.ar most)):fwO s most=none:=if_neg h
noncomputable def fwOf (s:Sy):Option (List Int)→Wt
 | none=>⟨0,[],[]⟩
 | some sym=>⟨1,sym,(rkO s sym s.ar.length).getD []⟩
noncomputable def fwW (s:Sy) (most:Int):Wt:=fwOf s (fwO s most)
theorem triW_in {ar:List Int} {most:Int} (h:0≤triW ar most):1≤most∧most≤3:=by
 unfold triW at h;split at h
 .rename_i h1;exact h1.2
 .omega
theorem triW_out {ar:List Int} {most:Int} (h:inB most 1 3=false):triW ar most = -1:=by
 unfold triW;rw [if_neg];rintro ⟨_,h1,h2⟩;unfold inB at h;simp at h;omega
theorem zero_btw {most:Int} (h1:1≤most) (n:Nat):Btw (List.replicate n 0) (List.replicate n 0) (List.replicate n most):=by
 induction n with
 | zero=>simp [Btw]
 | succ n ih=>rw [List.replicate_succ,List.replicate_succ];exact ⟨Zo,ih⟩
theorem rep_big {most:Int} (hm:most≤3) (n:Nat):(∀ (k:Nat) (h:Int),(List.replicate n most)[k]?=some h→h≤1000000)∧∀ (k:Nat) (l:Int),(List.replicate n (0:Int))[k]?=some l→-1000000≤l:=by
 refine ⟨fun k h hk=>?_,fun k l hk=>?_⟩
 .rw [List.getElem?_replicate] at hk;split at hk
  .cases hk;omega
  .cases hk
 .rw [List.getElem?_replicate] at hk;split at hk
  .cases hk;omega
  .cases hk
def NewWf (w:World) (W:Wt) (b:Bool) (e:Ending) (w':World):Prop:=∃ A n c B m d,e=.returned (.tuple #[.agg #[.int .i64 W.var,.slice A n c,.slice B m d],.bool b])∧OwI w' w.heap.size A n c W.sym∧OwI w' w.heap.size B m d W.rank∧(∀ g o s,A=some ⟨g,o,s⟩→∀ g' o' s',B=some ⟨g',o',s'⟩→g≠g')∧Ext w w'
def RP (w:World) (A:Option Addr) (n:Nat) (ps:List Pl):Prop:=
 (ps.length=n∧n≤4194304)∧(0 < n→∃ b o,A=some ⟨b,o,none⟩∧∀ j p,ps[j]?=some p→w.cell? ⟨b,o+j * 2,none⟩=some (.int .i64 p.c)∧∃ A' m' c',w.cell? ⟨b,o+j * 2+1,none⟩=some (.slice A' m' c')∧RI w A' m' p.cf)
section
variable {w w':World} {A:Option Addr} {n k:Nat} {ps:List Pl}
theorem RP.len (h:RP w A n ps):ps.length=n:=h.1.1
theorem RP.le (h:RP w A n ps):n≤4194304:=h.1.2
theorem RP.ext (h:RP w A n ps) (k:Ext w w'):RP w' A n ps:=
 ⟨h.1,fun hn=>by
  obtain ⟨b,o,hA,hc⟩:=h.2 hn;refine ⟨b,o,hA,fun j x hx=>?_⟩;obtain ⟨h1,A',m',c',h2,h3⟩:=hc j x hx;exact ⟨Ext.keep k h1,A',m',c',Ext.keep k h2,h3.ext k⟩⟩
theorem RP.at_ (h:RP w A n ps) (hk:k < n):∃ b o p A' m' c',A=some ⟨b,o,none⟩∧ps[k]?=some p∧w.cell? ⟨b,o+k * 2,none⟩=some (.int .i64 p.c)∧w.cell? ⟨b,o+k * 2+1,none⟩=some (.slice A' m' c')∧RI w A' m' p.cf:=by
 obtain ⟨b,o,hA,hc⟩:=h.2 Zo;have hl:k < ps.length:=by rw [h.len];exact hk
 have hx:=List.getElem?_eq_getElem hl;obtain ⟨h1,A',m',c',h2,h3⟩:=hc k _ hx;exact ⟨b,o,ps[k],A',m',c',hA,hx,h1,h2,h3⟩
end
def RdPs (w:World) (v:Value) (ps:List Pl):Prop:=∃ A n c,v=.slice A n c∧RP w A n ps
theorem RdPs.mk {w:World} {A:Option Addr} {n c:Nat} {ps:List Pl} (h:RP w A n ps):RdPs w (.slice A n c) ps:=⟨A,n,c,rfl,h⟩
theorem RdPs.ext {w w':World} {v:Value} {ps:List Pl} (h:RdPs w v ps) (k:Ext w w'):RdPs w' v ps:=by
 obtain ⟨A,n,c,e,h1⟩:=h;exact ⟨A,n,c,e,h1.ext k⟩
def RdPl (w:World) (v:Value) (p:Pl):Prop:=∃ A n c,v=.agg #[.int .i64 p.c,.slice A n c]∧RI w A n p.cf
theorem RdPl.mk {w:World} {A:Option Addr} {n c:Nat} {p:Pl} (h:RI w A n p.cf):RdPl w (.agg #[.int .i64 p.c,.slice A n c]) p:=⟨A,n,c,rfl,h⟩
theorem RdPl.ext {w w':World} {v:Value} {p:Pl} (h:RdPl w v p) (k:Ext w w'):RdPl w' v p:=by
 obtain ⟨A,n,c,e,h1⟩:=h;exact ⟨A,n,c,e,h1.ext k⟩
def NewPl (w:World) (p:Pl) (e:Ending) (w':World):Prop:=∃ A n c,e=.returned (.agg #[.int .i64 p.c,.slice A n c])∧OwI w' w.heap.size A n c p.cf∧Ext w w'
theorem getD_at {xs:List Int} {k:Nat} {x:Int} (h:xs[k]?=some x):nth xs k=x:=by unfold nth;rw [List.getD_eq_getElem?_getD,h];rfl
theorem getD_past {xs:List Int} {k:Nat} (h:xs.length≤k):nth xs k=0:=by unfold nth;rw [List.getD_eq_getElem?_getD,List.getElem?_eq_none h];rfl
theorem c_lineAt {A:Option Addr} {n c k:Nat} {p:Pl} {w:World} (h0:RI w A n p.cf) (hk:k≤4194304) :
 Calls Tryz.prog 116 #[.agg #[.int .i64 p.c,.slice A n c],.int .i64 (k:Int)] w fun e w'=>e=.returned (.int .i64 (nth p.cf k))∧Ext w w':=by
 have hl:=h0.len;by_cases hlt:k < n
 .obtain ⟨b,o,x,rfl,hx,hcx⟩:=RI.at_ h0 hlt;have HX:=Zh (getD_at hx);have hbl:b < w.heap.size:=World.block_lt_of_cell? w _ hcx;have hki:(k:Int) < (n:Int):=by omega
  clear hx h0 hl;go_enter Tryz.func116,Tryz.ntmps116;go_wp2;go_ret;exact ⟨ret_int HX.out.symm,extX⟩
 .have HX:=Zh (getD_past (xs:=p.cf) (k:=k) Zo);have hki:¬ (k:Int) < (n:Int):=by omega
  clear h0 hl;go_enter Tryz.func116,Tryz.ntmps116;go_wp2
  all_goals first
   | (exfalso;omega)
   | (go_ret;exact ⟨ret_int HX.out.symm,extX⟩)
theorem c_coef {A:Option Addr} {n c k:Nat} {p:Pl} {w:World} (h0:RI w A n p.cf) (hk:k≤4194304) :
 Calls Tryz.prog 102 #[.agg #[.int .i64 p.c,.slice A n c],.int .i64 (k:Int)] w fun e w'=>e=.returned (.int .i64 (nth p.cf k))∧Ext w w':=by
 have HA:=Zh h0;clear h0;go_enter Tryz.func102,Tryz.ntmps102;go_wp2_with (go_at_call 116;(with_reducible refine (c_lineAt (p:=p) (RI.ext HA.out extX) hk).mono ?_);rintro e w1 ⟨rfl,hE1⟩)
 go_ret;exact ⟨rfl,extX⟩
theorem c_atMost {v0 v1:Value} {a b:Pl} {w:World} (h0:RdPl w v0 a) (h1:RdPl w v1 b) :
 Calls Tryz.prog 74 #[v0,v1] w fun e w'=>e=.returned (.tuple #[.bool (most a b && decide (a.c≤b.c)),.bool (most a b && decide (a.c < b.c))])∧Ext w w':=by
 obtain ⟨A,n,c,rfl,ha⟩:=h0;obtain ⟨B,m,d,rfl,hb⟩:=h1;have hn:=ha.le;have HL:=Zh ha.len;have HA:=Zh ha;have HB:=Zh hb;clear ha hb;go_enter Tryz.func74,Tryz.ntmps74;go_wp2_with fail;obtain ⟨wo,hwo⟩:∃ wo,wo=(w.alloc (.cells #[.int .i64 a.c,.slice A n c] 82)).alloc (.cells #[.int .i64 b.c,.slice B m d] 82):=⟨_,rfl⟩;have hw0:wo.cell? ⟨w.heap.size,0,none⟩=some (.int .i64 a.c):=by rw [hwo];simp [go_sem]
 have hw2:wo.cell? ⟨w.heap.size+1,0,none⟩=some (.int .i64 b.c):=by rw [hwo];simp [go_sem]
 have hw3:wo.cell? ⟨w.heap.size+1,1,none⟩=some (.slice B m d):=by rw [hwo];simp [go_sem]
 have hEo:Ext w wo:=by rw [hwo];exact extX
 rw [← hwo];clear hwo;go_loopw [11] (fun i wr=>∃ k:Nat,i=.int .i64 k∧k≤n∧Hid (∀ (j:Nat) (x:Int),j < k→a.cf[j]?=some x→x≤nth b.cf j)∧Ext wo wr) (fun i _=>n - (intOf i).toNat)
 case atStart=>exact ⟨0,rfl,Nat.zero_le _,Zh fun j x hj=>Zo,Ext.refl _⟩
 case round=>
  obtain ⟨k,rfl,hk,hp,hE⟩:=hrel;have hEw:Ext w wr:=Ext.trans hEo hE;have hr0:=Ext.keep hE hw0;have hr2:=Ext.keep hE hw2;have hr3:=Ext.keep hE hw3;by_cases hlt:k < n
  .obtain ⟨b',o',x,rfl,hx,hcx⟩:=RI.at_ (RI.ext HA.out hEw) hlt;have HX:=Zh hx;clear hx;have hlt':(k:Int) < (n:Int):=by omega
   by_cases hxb:nth b.cf k < x
   .have HR:=Zh (most_f HX.out hxb);go_wp2_with (go_at_call 102;(with_reducible refine (c_coef (p:=b) (k:=k) (RI.ext HB.out extX) Zo).mono ?_);rintro e w5 ⟨rfl,hE5⟩)
    go_ret2
    exact ⟨by rw [HR.out];rfl,extX⟩
   .have HP:=Zh (show ∀ (j:Nat) (y:Int),j < k+1→a.cf[j]?=some y→y≤nth b.cf j from fun j y hj e=>by
     rcases Nat.lt_or_ge j k with h | h
     .exact hp.out j y h e
     .obtain rfl:j=k:=by omega
      rw [HX.out] at e;cases e;omega)
    go_wp2_with (go_at_call 102;(with_reducible refine (c_coef (p:=b) (k:=k) (RI.ext HB.out extX) Zo).mono ?_);rintro e w5 ⟨rfl,hE5⟩)
    go_roundw
    case rel=>exact ⟨k+1,by go_num,Zo,HP,extX⟩
    case measure=>exact mq39
  .have HR:=Zh (most_t (a:=a) (b:=b) fun j x hj e=>hp.out j x (by rw [HL.out] at hj;omega) e);go_wp2_with fail;go_quiet (fail)
   go_wp2;go_ret2
   exact ⟨by rw [HR.out];rfl,extX⟩
theorem c_varForm {x:Int} {w:World} (hx:x < 0) (hx2 : -24≤x):Calls Tryz.prog 114 #[.int .i64 x] w (NewPl w (varPl x)):=by
 obtain ⟨m,rfl⟩:∃ m:Nat,x = -((m:Int)+1):=⟨(-x - 1).toNat,Zo⟩;obtain ⟨i0,hi0,hz0,hz1,hz2⟩:=info_parts int64_info;go_enter Tryz.func114,Tryz.ntmps114;go_wp2_with (at_make;refine wpList_make_full _ rfl _ _ 27 rfl (w.heap.size+1) 2 i0 _ 1 Tryz.underlying27 hi0 hz0 hz1 _ _ _ _ (m+1) rfl rfl rfl rfl (by rw [hz2];omega) (by simp only [maxLen];omega) (by go_size) ?_)
 intro w1 hown0 hg;rw [madeInts] at hown0;have hown:=OwI.made hown0 Zo;have hE:Ext (w.alloc (.cells #[.int .i64 0,.slice none 0 0] 82)) w1:=Ext.grown (Ext.refl _) hg (fun k hk=>by cases hk);have hEw:Ext w w1:=Ext.trans ((Ext.refl w).alloc _) hE;obtain ⟨z,hz,hcz,hfz⟩:=OwI.at_ hown (k:=m) Zo;have hr0:w1.cell? ⟨w.heap.size,0,none⟩=some (.int .i64 0):=Ext.keep hE (by simp [go_sem]);have hr1:w1.cell? ⟨w.heap.size,1,none⟩=some (.slice none 0 0):=Ext.keep hE (by simp [go_sem]);have hrf:∀ j,w1.frozen? ⟨w.heap.size,j,none⟩=false:=fun j=>(Below.frozen (p:=⟨w.heap.size,j,none⟩) hE (by simp [go_sem])).trans (by simp [go_sem]);have HO:=Zh hown;have HX:=Zh (show (List.replicate (m+1) (0:Int)).set m 1=(varPl (-((m:Int)+1))).cf from by
  rw [List.replicate_succ',List.set_append_right _ _ (by simp)];simp only [List.length_replicate,Nat.sub_self,List.set_cons_zero,varPl];rw [show (-(-((m:Int)+1))).toNat - 1=m by omega])
 clear hown hown0 hz hg;have hm1:(m:Int) < (m:Int)+1:=by omega
 have hm0:(0:Int)≤(m:Int):=by omega
 have hidx : -1+((m:Int)+1)=(m:Int):=by omega
 go_wp2;refine bodyPost_ret (v:=.agg #[.int .i64 0,.slice (some ⟨w.heap.size+1,0,none⟩) (m+1) (m+1)]) (by simp [results,Tryz.results114,go_sem,hr0,hr1,hrf]) rfl ⟨some ⟨w.heap.size+1,0,none⟩,m+1,m+1,rfl,?_,?_⟩
 .have h1:=HO.out.set m 1;rw [HX.out] at h1;have h2:OwI _ w.heap.size _ _ _ _:=h1.lower (B':=w.heap.size) Zo
  (repeat' (first | (with_reducible exact h2) | (with_reducible refine OwI.setFar ?_ _ (fun g o s e=>?_))))<;>(cases e;simp;try omega)
 .exact extX
theorem c_slicesMax {v:Value} {t:List Int} {w:World} (h0:RdI w v t) (hne:1≤t.length) :
 Calls Tryz.prog 120 #[v] w fun e w'=>e=.returned (.int .i64 (maxL t))∧w=w':=by
 obtain ⟨A,n,c,rfl,ha⟩:=h0;have hn:=ha.le;have hl:=ha.len;have hn1:1≤n:=by omega
 obtain ⟨b,o,x,rfl,hx,hcx⟩:=RI.at_ ha (show 0 < n by omega);have HA:=Zh ha;have HL:=Zh hl;have HX:=Zh hx;rw [Nat.add_zero] at hcx;clear ha hl hx hne;go_enter Tryz.func120,Tryz.ntmps120;go_wp2;have e0:x=maxL (t.take 1):=by
  have:=HX.out;cases t with
  | nil=>simp at this
  | cons y ys=>simp at this;simp [maxL,this]
 have E0:=Zh e0;clear e0;go_loop [3,4] (fun a i=>∃ k:Nat,i=.int .i64 k∧1≤k∧k≤n∧∃ y,a=.int .i64 y∧Hid (y=maxL (t.take k))) (fun _ i=>n - (intOf i).toNat)
 case atStart=>exact ⟨1,rfl,Nat.le_refl _,hn1,x,rfl,E0.out⟩
 case round=>
  obtain ⟨k,rfl,hk1,hk,y,rfl,hy⟩:=hrel;by_cases hlt:k < n
  .obtain ⟨b',o',z,e',hz,hcz⟩:=RI.at_ HA.out hlt;cases e';have e1:maxL (t.take (k+1))=if y < z then z else y:=by
    rw [take_snoc hz,maxL_snoc (by intro e;have:=congrArg List.length e;rw [List.length_take,HL.out] at this;simp at this;omega),← hy.out]
   have E1:=Zh e1;clear e1 hz;go_wp2
   all_goals
    go_round
    case rel=>exact ⟨k+1,by go_num,Zo,Zo,_,rfl,by show _=_;rw [E1.out];try first | rw [if_pos Zo] | rw [if_neg Zo] | (split<;>omega)⟩
    case measure=>simp [intOf];omega
  .go_wp2;go_ret;exact ⟨ret_int (by rw [hy.out,List.take_of_length_le (by rw [HL.out];omega)]),rfl⟩
def rp (o:Option Pl):Pl:=o.getD ⟨0,[]⟩
def NewF (w:World) (o:Option Pl) (e:Ending) (w':World):Prop:=∃ A n c,e=.returned (.tuple #[.agg #[.int .i64 (rp o).c,.slice A n c],.bool o.isSome])∧OwI w' w.heap.size A n c (rp o).cf∧Ext w w'
def lenAt (w:World) (g:Nat):Nat:=match w.cell? ⟨g,1,none⟩ with | some (.slice _ n _)=>n | _=>0
theorem PB.lenAt {w1 wr:World} {x:Int} {A:Option Addr} {cA:Nat} {xs:List Int} (h:PB w1 wr x A cA xs):lenAt wr w1.heap.size=xs.length:=by
 unfold Go.Proofs.YtiblbnkpjmmjaaaGreat.lenAt;rw [h.c1]
def AddTo (old:List Int) (bs:List Int) (m:Int) (j:Nat) (ys:List Int):Prop:=ys.length=max old.length bs.length∧∀ i,nth ys i=nth old i+if i < j then m * nth bs i else 0
theorem AddTo.done {old bs ys:List Int} {m:Int} (h:AddTo old bs m bs.length ys):ys=addL old bs m:=by
 refine list_eq_getD (by rw [addL_len,h.1]) fun j hj=>?_;have h1:=h.2 j;unfold nth at h1;rw [h1,addL_get];by_cases hb:j < bs.length
 .rw [if_pos hb]
 .rw [if_neg hb,List.getD_eq_getElem?_getD (l:=bs),List.getElem?_eq_none Zo];simp
theorem AddTo.start {old bs:List Int} {m:Int} {t:Nat} (h:old.length+t=max old.length bs.length):AddTo old bs m 0 (old++List.replicate t 0):=by
 refine ⟨by simp [h],fun i=>?_⟩;unfold nth;rw [if_neg Zo,Int.add_zero];rcases Nat.lt_or_ge i old.length with hi | hi
 .rw [List.getD_eq_getElem?_getD,List.getElem?_append_left hi,← List.getD_eq_getElem?_getD]
 .rw [List.getD_eq_getElem?_getD,List.getD_eq_getElem?_getD,List.getElem?_append_right hi,List.getElem?_eq_none (l:=old) hi,List.getElem?_replicate];split<;>rfl
theorem AddTo.step {old bs ys:List Int} {m:Int} {j:Nat} {y b:Int} (h:AddTo old bs m j ys) (hy:ys[j]?=some y) (hb:bs[j]?=some b):AddTo old bs m (j+1) (ys.set j (y+m * b)):=by
 refine ⟨by rw [List.length_set];exact h.1,fun i=>?_⟩;have hjl:j < ys.length:=(List.getElem?_eq_some_iff.1 hy).1;by_cases hij:i=j
 .subst hij;have h1:=h.2 i;rw [if_neg Zo,Int.add_zero] at h1;rw [if_pos Zo,← h1];unfold nth;rw [List.getD_eq_getElem?_getD,List.getElem?_set_self hjl,List.getD_eq_getElem?_getD,hy,List.getD_eq_getElem?_getD,hb]
  rfl
 .have h1:=h.2 i;have e:nth (ys.set j (y+m * b)) i=nth ys i:=by
   unfold nth;rw [List.getD_eq_getElem?_getD,List.getElem?_set_ne Zo,← List.getD_eq_getElem?_getD]
  rw [e,h1]
  congr 1
  by_cases hi:i < j
  .rw [if_pos hi,if_pos Zo]
  .rw [if_neg hi,if_neg Zo]

