/- -/
import Derived.Test.YtiblbnkpjmmjaaaGreatQ28
import Derived.Test.YtiblbnkpjmmjaaaGreatQ29
set_option maxRecDepth 100000
set_option maxHeartbeats 16000000
set_option linter.all false
namespace Go.Proofs.YtiblbnkpjmmjaaaGreat
open Go.RowKit
theorem mq30 {p:Prop} (h:p:=by simp only [intOf];omega):p:=h
theorem c_l13Args {v0 v1:Value} {ar t rest:List Int} {p:Nat} {x:Int} {us:List Tm} {w:World} (h0:RdSig w v0 ar) (h1:RdI w v1 t) (hs:SigP ar) (hu:(Tm.node x us).Ok ar) (hd:t.drop p=(Tm.node x us).flat++rest) :
 Calls Tryz.prog 103 #[v0,v1,.int .i64 (p:Int)] w fun e w'=>∃ A c,e=.returned (.slice A us.length c)∧OwN w' w.heap.size A us.length c (starts (p+1) us)∧Ext w w':=by
 obtain ⟨A,n,c,rfl,ha⟩:=h0;obtain ⟨B,m,d,rfl,hb⟩:=h1;have hm:=hb.le;have hml:=hb.len;have hnl:=ha.len;have hlt:=drop_lt hd (flat_pos _);rw [hml] at hlt;have hfl:(flatL us).length+1=(Tm.node x us).flat.length:=by rw [flat_node];rfl
 obtain ⟨hok,hol⟩:=Ok_node.1 hu;have hal:us.length≤3:=arI_le hs hok;obtain ⟨b,o,y,rfl,hy,hcy⟩:=RI.at_ hb (show p < m by omega);rw [at_of hd] at hy;cases hy;have hbl:b < w.heap.size:=World.block_lt_of_cell? w _ hcy;have hpm:(p:Int) < (m:Int):=by omega
 have hp0:(0:Int)≤(p:Int):=by omega
 obtain ⟨i0,hii,hiz,his,hib⟩:=info_parts int_info;have HA:=Zh ha;have HB:=Zh hb;have HS:=Zh hs;have HD:=Zh hd;have HOK:=Zh hok;have HOL:=Zh (OkL_iff.1 hol);have HFL:=Zh hfl;have HM:=Zh hml;have hxl:=arI_lt hok;clear ha hb hs hd hok hol hu hml;by_cases hx0:x < 0
 .have ha0:us.length=0:=by have:=HOK.out;rw [arI_neg hx0] at this;injection this with this;exact this.symm
  have ha1:us=[]:=List.eq_nil_of_length_eq_zero ha0;subst ha1;go_enter Tryz.func103,Tryz.ntmps103;go_wp2;go_ret;exact ⟨some ⟨w.heap.size+1,0,none⟩,0,rfl,(by
   have:=OwN.none0 (w:=w.alloc (.cells #[.slice A n c] 29)) (D:=w.heap.size) (by simp [go_sem]);rw [World.size_alloc] at this;exact this),extX⟩
 .obtain ⟨z0,rfl⟩:=Int.eq_ofNat_of_zero_le (show 0≤x by omega);have hzn:z0 < n:=by omega
  obtain ⟨b2,o2,s,rfl,hs2,hcs⟩:=RI.at_ HA.out hzn;have has:(s:Int)=(us.length:Int):=by
   have hf:=HOK.out;rw [arI_at Zo (by rw [Int.toNat_natCast];exact hs2)] at hf;have:=HS.out.2.2 s (List.mem_of_getElem? hs2);injection hf with hf;omega
  subst has;have hzi:(z0:Int) < (n:Int):=by omega
  clear hs2 hfl hnl hxl;go_enter Tryz.func103,Tryz.ntmps103;go_wp2_with fail;obtain ⟨wo,hwo⟩:∃ wo,wo=(w.alloc (.cells #[.slice (some ⟨b2,o2,none⟩) n c] 29)).alloc (.cells #[] 3):=⟨_,rfl⟩;have hb0:wo.cell? ⟨w.heap.size,0,none⟩=some (.slice (some ⟨b2,o2,none⟩) n c):=by rw [hwo];simp [go_sem]
  have HO0:=Zh (show OwN wo w.heap.size (some ⟨w.heap.size+1,0,none⟩) 0 0 [] by
   have:=OwN.none0 (w:=w.alloc (.cells #[.slice (some ⟨b2,o2,none⟩) n c] 29)) (D:=w.heap.size) (by simp [go_sem]);rw [World.size_alloc] at this;rw [hwo];exact this)
  have hEo:Ext w wo:=by rw [hwo];exact extX
  have hne1:Hid (∀ g,(some ⟨w.heap.size+1,0,none⟩:Option Addr)=some ⟨g,0,none⟩→g≠w.heap.size):=Zh (fun g e=>by cases e;omega);rw [← hwo];clear hwo;go_loopw [7,8,9] (fun ov av kv wr=>∃ k:Nat,kv=.int .i64 k∧k≤us.length∧(∃ q:Nat,av=.int .i64 (q:Int)∧Hid (q=p+1+(flatL (us.take k)).length)∧q≤m)∧(∃ A c,ov=.slice A k c∧Hid (OwN wr w.heap.size A k c (starts (p+1) (us.take k))∧∀ g,A=some ⟨g,0,none⟩→g≠w.heap.size))∧Ext w wr∧wr.cell? ⟨w.heap.size,0,none⟩=some (.slice (some ⟨b2,o2,none⟩) n c)) (fun _ _ kv _=>us.length - (intOf kv).toNat)
  case atStart=>exact ⟨0,rfl,Nat.zero_le _,⟨p+1,by go_num,Zh (by simp [flatL_nil]),Zo⟩,⟨_,0,rfl,Zh ⟨by simp [starts];exact HO0.out,hne1.out⟩⟩,hEo,hb0⟩
  case round=>
   obtain ⟨k,rfl,hk,⟨q,rfl,hq,hqm⟩,⟨A1,c1,rfl,hO⟩,hE,hr0⟩:=hrel;have hcx:wr.cell? ⟨b,o+p,none⟩=some (.int .i64 (z0:Int)):=Ext.keep hE hcy;have hcz:wr.cell? ⟨b2,o2+z0,none⟩=some (.int .i64 (us.length:Int)):=Ext.keep hE hcs;by_cases hlt2:k < us.length
   .obtain ⟨a,hak⟩:∃ a,us[k]?=some a:=⟨us[k],List.getElem?_eq_getElem hlt2⟩;have hda:=drop_arg HD.out hak;rw [← hq.out] at hda;have hao:=HOL.out a (List.mem_of_getElem? hak);have hqa:=drop_lt hda (flat_pos a);rw [HM.out] at hqa;have hst:starts (p+1) (us.take (k+1))=starts (p+1) (us.take k)++[(q:Int)]:=by
     rw [take_snoc hak,starts_append,← hq.out];rfl
    have hfk:(flatL (us.take (k+1))).length=(flatL (us.take k)).length+a.flat.length:=by
     rw [take_snoc hak,flatL_append,flatL_cons,flatL_nil,List.append_nil,List.length_append]
    have HDA:=Zh hda;have HAO:=Zh hao;have HST:=Zh hst;have HFK:=Zh hfk;clear hda hao hst hfk hak;have hlt':(k:Int) < (us.length:Int):=by omega
    go_wp2_with fail;go_quiet (fail)
    obtain ⟨w5,hw5⟩:∃ w5,w5=wr.drewN nq:=⟨_,rfl⟩;have hE5:Ext wr w5:=by rw [hw5];exact extX
    rw [← hw5];clear hw5;have HO5:=Zh (hO.out.1.ext hE5);have HNE:=Zh hO.out.2;have hE5w:=Ext.trans hE hE5;have hr5:=Ext.keep hE5 hr0;have hlt5:w.heap.size < w5.heap.size:=World.block_lt_of_cell? w5 _ hr5;go_wp2_with (at_builtin;go_loud (refine wpList_append_lies _ rfl (.tmp 31) (.tmp 33) 135 rfl w.heap.size 3 i0 (.int .i64 0) 1 8 Tryz.underlying135 hii hiz his hib rfl (by decide) _ _ _ rfl (OwN.alloc HO5.out _).2 ⟨w5.heap.size,0,none⟩ 1 1 [.int .i64 (q:Int)] rfl rfl (one_cells _ _ _) (one_one _) (by decide) (by unfold maxLen;omega) Zo (by go_size) _ rfl ?_))
    intro g cap wx hown hg hat hltg;have hE6:Ext w wx:=Ext.grown (hE5w.alloc _) hg (fun k' hk'=>HO5.out.ob k' hk');have HW:=Zh (show OwN wx w.heap.size (some ⟨g,0,none⟩) (k+1) cap (starts (p+1) (us.take (k+1))) from ⟨Zo,by rw [HST.out,List.map_append];exact hown⟩);have hbx:wx.cell? ⟨w.heap.size,0,none⟩=some (.slice (some ⟨b2,o2,none⟩) n c):=(hg.cell_far ⟨w.heap.size,0,none⟩ (by simp [go_sem];omega) (fun e=>HNE.out w.heap.size (HO5.out.ownB e.symm) rfl)).trans ((World.cell?_alloc_past _ _ _ Zo).trans hr5);have HN6:=Zh (show ∀ g',(some ⟨g,0,none⟩:Option Addr)=some ⟨g',0,none⟩→g'≠w.heap.size from fun g' e=>by
     cases e;rcases hat with h | h
     .exact HNE.out g (HO5.out.ownB h)
     .omega)
    clear hown hg hat
    go_wp2_with (go_at_call 107;(with_reducible refine (c_l13End (u:=a) (RdSig.mk (RI.ext HA.out extX)) (RdI.mk (RI.ext HB.out extX)) HS.out HAO.out HDA.out).mono ?_);rintro e w7 ⟨rfl,hE7⟩)
    have hb7:=Ext.keep hE7 hbx;have HW7:=Zh (HW.out.ext hE7);go_roundw
    case rel=>exact ⟨k+1,by go_num,Zo,⟨q+a.flat.length,rfl,Zh (by rw [HFK.out,hq.out];omega),Zo⟩,⟨_,_,rfl,Zh ⟨HW7.out,HN6.out⟩⟩,Ext.trans hE6 hE7,hb7⟩
    case measure=>exact mq30
   .have hkn:k=us.length:=by omega
    subst hkn;have hlt':decide ((us.length:Int) < (us.length:Int))=false:=by simp
    go_wp2_with fail;go_quiet (fail)
    go_wp2;go_ret;exact ⟨_,_,rfl,by have:=hO.out.1;rw [List.take_length] at this;exact this.ext extX,extX⟩
def ChgM (w w':World):Prop:=∀ (i:Nat) (c:Array Value) (T:TypeId),w.heap[i]?=some (.cells c T (0,0))→T≠113→T≠135→T≠27→w'.heap[i]?=w.heap[i]?
theorem ChgM.trans {a b c:World} (h:ChgM a b) (k:ChgM b c):ChgM a c:=fun i cs T hh h1 h2 h3=>by
 have e:=h i cs T hh h1 h2 h3;exact (k i cs T (e.trans hh) h1 h2 h3).trans e
theorem ChgM.of_ext {w w':World} (h:Ext w w'):ChgM w w':=fun i cs T hh _ _ _=>h.block i (Array.getElem?_eq_some_iff.1 hh).1
theorem ChgM.of_grown {w w':World} {row:Option Nat} (h:w.grownBy w' row) (hr:∀ b,row=some b→∃ c T,w.heap[b]?=some (.cells c T (0,0))∧(T=113∨T=135∨T=27)):ChgM w w':=fun i cs T hh h1 h2 h3=>by
 refine h.block i (Array.getElem?_eq_some_iff.1 hh).1 fun e=>?_;obtain ⟨c',T',e1,e2⟩:=hr i e.symm;rw [hh] at e1;injection e1 with e1
 injection e1 with _ e1 _
 subst e1;rcases e2 with e2 | e2 | e2
 .exact h1 e2
 .exact h2 e2
 .exact h3 e2
theorem ChgM.of_set {w:World} {g o:Nat} {v:Value} {c:Array Value} (hh:w.heap[g]?=some (.cells c 113 (0,0))):ChgM w (w.setCell ⟨g,o,none⟩ v):=
 ChgM.of_grown (Only.setCell w g o v) fun b e=>by cases e;exact ⟨_,_,hh,.inl rfl⟩
def FinN (w:World) (A:Option Addr) (xs:List Int):Prop:=(A=none∧xs=[])∨∃ b cs,A=some ⟨b,0,none⟩∧w.heap[b]?=some (.cells cs 3 (0,0))∧∀ (j:Nat) (x:Int),xs[j]?=some x→cs[j]?=some (.int .i64 x)
def FinR (w:World) (b m:Nat):Prop:=∃ cs,w.heap[b]?=some (.cells cs 2 (0,0))∧∀ j:Nat,j < m→cs[j]?=some (.int .i64 0)
theorem OwN.fin {w:World} {B n c:Nat} {A:Option Addr} {xs:List Int} (h:OwN w B A n c xs):FinN w A xs:=by
 rcases h.2.2 with ⟨hv,hn⟩ | ⟨g,cap,cur,hv,hg,hh,h1,h2,h3,h4⟩
 .cases hv;exact .inl ⟨rfl,List.length_eq_zero_iff.1 h.len⟩
 .cases hv;refine .inr ⟨g,cur,rfl,hh,fun j x hx=>?_⟩;have e:(cur.toList.take (n * 1))[j]?=some (.int .i64 x):=by rw [h4,List.getElem?_map,hx];rfl
  rw [List.getElem?_take] at e;split at e
  .rw [← Array.getElem?_toList];exact e
  .cases e
theorem FinN.chg {w w':World} {A:Option Addr} {xs:List Int} (h:FinN w A xs) (k:ChgM w w'):FinN w' A xs:=by
 rcases h with h | ⟨b,cs,e,hh,hc⟩
 .exact .inl h
 .exact .inr ⟨b,cs,e,(k b cs _ hh (by decide) (by decide) (by decide)).trans hh,hc⟩
theorem FinN.ri {w:World} {A:Option Addr} {xs:List Int} (h:FinN w A xs) (hl:xs.length≤4194304):RI w A xs.length xs:=by
 refine ⟨⟨rfl,hl⟩,fun hn=>?_⟩;rcases h with ⟨_,h⟩ | ⟨b,cs,e,hh,hc⟩
 .rw [h] at hn;simp at hn
 .exact ⟨b,0,e,fun j x hx=>by rw [Nat.zero_add,cell_of_row w b _ cs _ (0,0) hh];exact hc j x hx⟩
theorem FinR.chg {w w':World} {b m:Nat} (h:FinR w b m) (k:ChgM w w'):FinR w' b m:=by
 obtain ⟨cs,hh,hc⟩:=h;exact ⟨cs,(k b cs _ hh (by decide) (by decide) (by decide)).trans hh,hc⟩
theorem FinR.lt {w:World} {b m:Nat} (h:FinR w b m):b < w.heap.size:=by
 obtain ⟨cs,hh,_⟩:=h;exact (Array.getElem?_eq_some_iff.1 hh).1
def ArgL (w:World) (ar t:List Int) (vs:List Value):Prop:=∀ (i:Nat) (v:Value),vs[i]?=some v→∃ A c,v=.slice A (subT ar t i).as.length c∧FinN w A (starts (i+1) (subT ar t i).as)
def RowL (w:World) (B m:Nat) (vs:List Value):Prop:=(∀ (i:Nat) (v:Value),vs[i]?=some v→∃ b,v=.slice (some ⟨b,0,none⟩) m m∧B≤b∧FinR w b m)∧∀ (i j b:Nat),vs[i]?=some (.slice (some ⟨b,0,none⟩) m m)→vs[j]?=some (.slice (some ⟨b,0,none⟩) m m)→i=j
theorem ArgL.chg {w w':World} {ar t:List Int} {vs:List Value} (h:ArgL w ar t vs) (k:ChgM w w'):ArgL w' ar t vs:=fun i v hv=>by
 obtain ⟨A,c,e,hf⟩:=h i v hv;exact ⟨A,c,e,hf.chg k⟩
theorem ArgL.snoc {w:World} {ar t:List Int} {vs:List Value} {k:Nat} {A:Option Addr} {c:Nat} (h:ArgL w ar t vs) (hk:vs.length=k) (hf:FinN w A (starts (k+1) (subT ar t k).as)):ArgL w ar t (vs++[.slice A (subT ar t k).as.length c]):=fun i v hv=>by
 rcases Nat.lt_or_ge i k with h1 | h1
 .rw [List.getElem?_append_left Zo] at hv;exact h i v hv
 .have hi:i=k:=by have:=(List.getElem?_eq_some_iff.1 hv).1;simp at this;omega
  subst hi;rw [List.getElem?_append_right Zo,hk,Nat.sub_self] at hv;cases hv;exact ⟨A,c,rfl,hf⟩
theorem RowL.chg {w w':World} {B m:Nat} {vs:List Value} (h:RowL w B m vs) (k:ChgM w w'):RowL w' B m vs:=⟨fun i v hv=>by
 obtain ⟨b,e,hb,hf⟩:=h.1 i v hv;exact ⟨b,e,hb,hf.chg k⟩,h.2⟩
theorem RowL.snoc {w:World} {B m k b:Nat} {vs:List Value} (h:RowL w B m vs) (hk:vs.length=k) (hB:B≤b) (hf:FinR w b m) (hn:∀ (i:Nat),vs[i]?≠some (.slice (some ⟨b,0,none⟩) m m)):RowL w B m (vs++[.slice (some ⟨b,0,none⟩) m m]):=by
 have hat:∀ (i:Nat) (v:Value),(vs++[Value.slice (some ⟨b,0,none⟩) m m])[i]?=some v→vs[i]?=some v∨(i=k∧v=.slice (some ⟨b,0,none⟩) m m):=fun i v hv=>by
  rcases Nat.lt_or_ge i k with h1 | h1
  .rw [List.getElem?_append_left Zo] at hv;exact .inl hv
  .have hi:i=k:=by have:=(List.getElem?_eq_some_iff.1 hv).1;simp at this;omega
   subst hi;rw [List.getElem?_append_right Zo,hk,Nat.sub_self] at hv;cases hv;exact .inr ⟨rfl,rfl⟩
 refine ⟨fun i v hv=>?_,fun i j c hi hj=>?_⟩
 .rcases hat i v hv with h1 | ⟨rfl,rfl⟩
  .exact h.1 i v h1
  .exact ⟨b,rfl,hB,hf⟩
 .rcases hat i _ hi with h1 | ⟨h1,h2⟩<;>rcases hat j _ hj with h3 | ⟨h3,h4⟩
  .exact h.2 i j c h1 h3
  .injection h4 with h4;injection h4 with h4;injection h4 with h4;subst h4
   exact absurd h1 (hn i)
  .injection h2 with h2;injection h2 with h2;injection h2 with h2;subst h2
   exact absurd h3 (hn j)
  .omega
theorem ownsRow_heapZ {w w':World} {B:Nat} {e:TypeId} {s n k c:Nat} {A:Option Addr} {xs:List Value} (h:w.ownsRow B e s (.slice A n c) k xs) (hk:∀ g,A=some ⟨g,0,none⟩→w'.heap[g]?=w.heap[g]?):w'.ownsRow B e s (.slice A n c) k xs:=by
 refine ⟨h.1,?_⟩;rcases h.2 with h2 | ⟨g,cap,cur,hv,hg,hh,r⟩
 .exact .inl h2
 .have hA:A=some ⟨g,0,none⟩:=by cases hv;rfl
  exact .inr ⟨g,cap,cur,hv,hg,by rw [hk g hA];exact hh,r⟩
theorem ownsRow_atZ {w:World} {B:Nat} {e:TypeId} {n k c g:Nat} {xs:List Value} (h:w.ownsRow B e 1 (.slice (some ⟨g,0,none⟩) n c) k xs):B≤g∧∃ cur,w.heap[g]?=some (.cells cur e (0,0)):=by
 rcases h.2 with ⟨h2,_⟩ | ⟨g',cap,cur,hv,hg,hh,r⟩
 .cases h2
 .cases hv;exact ⟨hg,cur,hh⟩
theorem ownsRow_blk {w:World} {B:Nat} {e:TypeId} {n k c g:Nat} {A:Option Addr} {xs:List Value} (h:w.ownsRow B e 1 (.slice A n c) k xs) (hb:(Value.slice A n c).ownBlock=some g):A=some ⟨g,0,none⟩:=by
 rcases h.2 with ⟨h2,_⟩ | ⟨g',cap,cur,hv,hg,hh,r⟩
 .cases h2;cases hb
 .cases hv;cases hb;rfl
theorem ty_ne {w:World} {b c:Nat} {x y:Array Value} {T U:TypeId} (h:w.heap[b]?=some (.cells x T (0,0))) (k:w.heap[c]?=some (.cells y U (0,0))) (hn:T≠U):b≠c:=by
 rintro rfl;rw [h] at k;injection k with k;injection k with _ k _
 exact hn k
structure MkSt (w wr:World) (g:Nat) (c0 c1 c2 c3:Value) (ar ss tt:List Int) (m kS kT kW:Nat) (As:Option Addr) (cs:Nat) (At:Option Addr) (ct:Nat) (Aw:Option Addr) (cw:Nat) (vs us ws:List Value):Prop where
 ex:Ext w wr
 gg:w.heap.size < g
 bx:wr.heap[g]?=some (.cells #[c0,c1,c2,c3,.slice As kS cs,.slice At kT ct,.slice Aw kW cw] 113 (0,0))
 sg:wr.heap[w.heap.size]?=some (.cells #[c0] 29 (0,0))
 oS:wr.ownsRow w.heap.size 135 1 (.slice As kS cs) kS vs
 oT:wr.ownsRow w.heap.size 135 1 (.slice At kT ct) kT us
 oW:wr.ownsRow w.heap.size 27 1 (.slice Aw kW cw) kW ws
 ap:ApartA As At
 fS:ArgL wr ar ss vs
 fT:ArgL wr ar tt us
 fW:RowL wr w.heap.size m ws
section
variable {w wr:World} {g:Nat} {c0 c1 c2 c3:Value} {ar ss tt:List Int} {m kS kT kW:Nat} {As:Option Addr} {cs:Nat} {At:Option Addr} {ct:Nat} {Aw:Option Addr} {cw:Nat} {vs us ws:List Value}
theorem MkSt.glt (h:MkSt w wr g c0 c1 c2 c3 ar ss tt m kS kT kW As cs At ct Aw cw vs us ws):g < wr.heap.size:=(Array.getElem?_eq_some_iff.1 h.bx).1
theorem own_ext {w':World} {B n k c:Nat} {e:TypeId} {A:Option Addr} {xs:List Value} (h:wr.ownsRow B e 1 (.slice A n c) k xs) (hE:Ext wr w'):w'.ownsRow B e 1 (.slice A n c) k xs:=
 ownsRow_heapZ h fun b e2=>by
  subst e2;obtain ⟨_,cur,hh⟩:=ownsRow_atZ h;exact hE.block b (Array.getElem?_eq_some_iff.1 hh).1
theorem MkSt.ext (h:MkSt w wr g c0 c1 c2 c3 ar ss tt m kS kT kW As cs At ct Aw cw vs us ws) {w':World} (hE:Ext wr w'):MkSt w w' g c0 c1 c2 c3 ar ss tt m kS kT kW As cs At ct Aw cw vs us ws:=
 ⟨h.ex.trans hE,h.gg,(hE.block g h.glt).trans h.bx,(hE.block _ (Array.getElem?_eq_some_iff.1 h.sg).1).trans h.sg,own_ext h.oS hE,own_ext h.oT hE,own_ext h.oW hE,h.ap,h.fS.chg (.of_ext hE),h.fT.chg (.of_ext hE),h.fW.chg (.of_ext hE)⟩
theorem MkSt.pushS (h:MkSt w wr g c0 c1 c2 c3 ar ss tt m kS kT kW As cs At ct Aw cw vs us ws) {wx:World} {g6 cap:Nat} {A:Option Addr} {c:Nat}
 (hown:wx.ownsRow w.heap.size 135 1 (.slice (some ⟨g6,0,none⟩) (kS+1) cap) (kS+1) (vs++[.slice A (subT ar ss kS).as.length c]))
 (hg:wr.grownBy wx (Value.slice As kS cs).ownBlock) (hat:(Value.slice As kS cs).ownBlock=some g6∨g6=wr.heap.size) (hlt:g6 < wx.heap.size) (hf:FinN wr A (starts (kS+1) (subT ar ss kS).as)) :
 MkSt w (wx.setCell ⟨g,4,none⟩ (.slice (some ⟨g6,0,none⟩) (kS+1) cap)) g c0 c1 c2 c3 ar ss tt m (kS+1) kT kW (some ⟨g6,0,none⟩) cap At ct Aw cw (vs++[.slice A (subT ar ss kS).as.length c]) us ws:=by
 have hrow:∀ b,(Value.slice As kS cs).ownBlock=some b→w.heap.size≤b∧∃ c,wr.heap[b]?=some (.cells c 135 (0,0)):=fun b hb=>by
  have e:=ownsRow_blk h.oS hb;subst e;exact ownsRow_atZ h.oS
 have hC1:ChgM wr wx:=ChgM.of_grown hg fun b hb=>by
  obtain ⟨_,c,hh⟩:=hrow b hb;exact ⟨c,_,hh,.inr (.inl rfl)⟩
 have hgx:wx.heap[g]?=wr.heap[g]?:=hg.block g h.glt fun e=>by
  obtain ⟨_,c,hh⟩:=hrow g e.symm;exact ty_ne h.bx hh (by decide) rfl
 have hC2:ChgM wx (wx.setCell ⟨g,4,none⟩ (.slice (some ⟨g6,0,none⟩) (kS+1) cap)):=ChgM.of_set (hgx.trans h.bx);have hC:=hC1.trans hC2;have hE1:Ext w wx:=Ext.grown h.ex hg fun b hb=>(hrow b hb).1;have hset:∀ b,b≠g→(wx.setCell ⟨g,4,none⟩ (.slice (some ⟨g6,0,none⟩) (kS+1) cap)).heap[b]?=wx.heap[b]?:=fun b hb=>Below.heap_setCell _ _ _ _ hb;have h6g:g6≠g:=by
  rcases hat with e | e
  .obtain ⟨_,c,hh⟩:=hrow g6 e;exact fun e2=>ty_ne hh (e2 ▸ h.bx) (by decide) rfl
  .have:=h.glt;omega
 have hoth:∀ {e:TypeId} {A:Option Addr} {n k c:Nat} {xs:List Value},wr.ownsRow w.heap.size e 1 (.slice A n c) k xs→113≠e→(∀ b,A=some ⟨b,0,none⟩→(Value.slice As kS cs).ownBlock≠some b)→(wx.setCell ⟨g,4,none⟩ (.slice (some ⟨g6,0,none⟩) (kS+1) cap)).ownsRow w.heap.size e 1 (.slice A n c) k xs:=fun {e A n k c xs} ho he hne=>ownsRow_heapZ ho fun b e2=>by
  subst e2;obtain ⟨_,cur,hh⟩:=ownsRow_atZ ho;have hbg:b≠g:=Ne.symm (ty_ne h.bx hh he);exact (hset b hbg).trans (hg.block b (Array.getElem?_eq_some_iff.1 hh).1 (Ne.symm (hne b rfl)))
 have hbx2:(wx.setCell ⟨g,4,none⟩ (.slice (some ⟨g6,0,none⟩) (kS+1) cap)).heap[g]?=some (.cells #[c0,c1,c2,c3,.slice (some ⟨g6,0,none⟩) (kS+1) cap,.slice At kT ct,.slice Aw kW cw] 113 (0,0)):=by
  have hb:=hgx.trans h.bx;simp [World.setCell,Array.getElem?_modify,hb]
 have hnew:(wx.setCell ⟨g,4,none⟩ (.slice (some ⟨g6,0,none⟩) (kS+1) cap)).ownsRow w.heap.size 135 1 (.slice (some ⟨g6,0,none⟩) (kS+1) cap) (kS+1) (vs++[.slice A (subT ar ss kS).as.length c]):=ownsRow_heapZ hown fun b e=>by cases e;exact hset g6 h6g
 have hlen:vs.length=kS:=by have:=h.oS.1;omega
 have hsg:(wx.setCell ⟨g,4,none⟩ (.slice (some ⟨g6,0,none⟩) (kS+1) cap)).heap[w.heap.size]?=some (.cells #[c0] 29 (0,0)):=(hC _ _ _ h.sg (by decide) (by decide) (by decide)).trans h.sg;refine ⟨hE1.set (by show _≤g;have:=h.gg;omega) _,h.gg,hbx2,hsg,hnew,hoth h.oT (by decide) (fun b e e2=>h.ap b b (ownsRow_blk h.oS e2) e rfl),hoth h.oW (by decide) (fun b e e2=>by subst e;obtain ⟨_,c,hh⟩:=hrow b e2;obtain ⟨_,c',hh'⟩:=ownsRow_atZ h.oW;exact ty_ne hh hh' (by decide) rfl),(fun b c e1 e2=>by cases e1;rcases hat with e | e;exact h.ap g6 c (ownsRow_blk h.oS e) e2;(subst e2;obtain ⟨_,cur,hh⟩:=ownsRow_atZ h.oT;have:=(Array.getElem?_eq_some_iff.1 hh).1;omega)),(h.fS.chg hC).snoc hlen (hf.chg hC),h.fT.chg hC,h.fW.chg hC⟩
theorem MkSt.pushT (h:MkSt w wr g c0 c1 c2 c3 ar ss tt m kS kT kW As cs At ct Aw cw vs us ws) {wx:World} {g6 cap:Nat} {A:Option Addr} {c:Nat}
 (hown:wx.ownsRow w.heap.size 135 1 (.slice (some ⟨g6,0,none⟩) (kT+1) cap) (kT+1) (us++[.slice A (subT ar tt kT).as.length c]))
 (hg:wr.grownBy wx (Value.slice At kT ct).ownBlock) (hat:(Value.slice At kT ct).ownBlock=some g6∨g6=wr.heap.size) (hlt:g6 < wx.heap.size) (hf:FinN wr A (starts (kT+1) (subT ar tt kT).as)) :
 MkSt w (wx.setCell ⟨g,5,none⟩ (.slice (some ⟨g6,0,none⟩) (kT+1) cap)) g c0 c1 c2 c3 ar ss tt m kS (kT+1) kW As cs (some ⟨g6,0,none⟩) cap Aw cw vs (us++[.slice A (subT ar tt kT).as.length c]) ws:=by
 have hrow:∀ b,(Value.slice At kT ct).ownBlock=some b→w.heap.size≤b∧∃ c,wr.heap[b]?=some (.cells c 135 (0,0)):=fun b hb=>by
  have e:=ownsRow_blk h.oT hb;subst e;exact ownsRow_atZ h.oT
 have hC1:ChgM wr wx:=ChgM.of_grown hg fun b hb=>by
  obtain ⟨_,c,hh⟩:=hrow b hb;exact ⟨c,_,hh,.inr (.inl rfl)⟩
 have hgx:wx.heap[g]?=wr.heap[g]?:=hg.block g h.glt fun e=>by
  obtain ⟨_,c,hh⟩:=hrow g e.symm;exact ty_ne h.bx hh (by decide) rfl
 have hC2:ChgM wx (wx.setCell ⟨g,5,none⟩ (.slice (some ⟨g6,0,none⟩) (kT+1) cap)):=ChgM.of_set (hgx.trans h.bx);have hC:=hC1.trans hC2;have hE1:Ext w wx:=Ext.grown h.ex hg fun b hb=>(hrow b hb).1;have hset:∀ b,b≠g→(wx.setCell ⟨g,5,none⟩ (.slice (some ⟨g6,0,none⟩) (kT+1) cap)).heap[b]?=wx.heap[b]?:=fun b hb=>Below.heap_setCell _ _ _ _ hb;have h6g:g6≠g:=by
  rcases hat with e | e
  .obtain ⟨_,c,hh⟩:=hrow g6 e;exact fun e2=>ty_ne hh (e2 ▸ h.bx) (by decide) rfl
  .have:=h.glt;omega
 have hoth:∀ {e:TypeId} {A:Option Addr} {n k c:Nat} {xs:List Value},wr.ownsRow w.heap.size e 1 (.slice A n c) k xs→113≠e→(∀ b,A=some ⟨b,0,none⟩→(Value.slice At kT ct).ownBlock≠some b)→(wx.setCell ⟨g,5,none⟩ (.slice (some ⟨g6,0,none⟩) (kT+1) cap)).ownsRow w.heap.size e 1 (.slice A n c) k xs:=fun {e A n k c xs} ho he hne=>ownsRow_heapZ ho fun b e2=>by
  subst e2;obtain ⟨_,cur,hh⟩:=ownsRow_atZ ho;have hbg:b≠g:=Ne.symm (ty_ne h.bx hh he);exact (hset b hbg).trans (hg.block b (Array.getElem?_eq_some_iff.1 hh).1 (Ne.symm (hne b rfl)))
 have hbx2:(wx.setCell ⟨g,5,none⟩ (.slice (some ⟨g6,0,none⟩) (kT+1) cap)).heap[g]?=some (.cells #[c0,c1,c2,c3,.slice As kS cs,.slice (some ⟨g6,0,none⟩) (kT+1) cap,.slice Aw kW cw] 113 (0,0)):=by
  have hb:=hgx.trans h.bx;simp [World.setCell,Array.getElem?_modify,hb]
 have hnew:(wx.setCell ⟨g,5,none⟩ (.slice (some ⟨g6,0,none⟩) (kT+1) cap)).ownsRow w.heap.size 135 1 (.slice (some ⟨g6,0,none⟩) (kT+1) cap) (kT+1) (us++[.slice A (subT ar tt kT).as.length c]):=ownsRow_heapZ hown fun b e=>by cases e;exact hset g6 h6g
 have hlen:us.length=kT:=by have:=h.oT.1;omega
 have hsg:(wx.setCell ⟨g,5,none⟩ (.slice (some ⟨g6,0,none⟩) (kT+1) cap)).heap[w.heap.size]?=some (.cells #[c0] 29 (0,0)):=(hC _ _ _ h.sg (by decide) (by decide) (by decide)).trans h.sg;refine ⟨hE1.set (by show _≤g;have:=h.gg;omega) _,h.gg,hbx2,hsg,hoth h.oS (by decide) (fun b e e2=>h.ap b b e (ownsRow_blk h.oT e2) rfl),hnew,hoth h.oW (by decide) (fun b e e2=>by subst e;obtain ⟨_,c,hh⟩:=hrow b e2;obtain ⟨_,c',hh'⟩:=ownsRow_atZ h.oW;exact ty_ne hh hh' (by decide) rfl),(fun b c e1 e2=>by cases e2;rcases hat with e | e;exact h.ap b g6 e1 (ownsRow_blk h.oT e);(subst e1;obtain ⟨_,cur,hh⟩:=ownsRow_atZ h.oS;have:=(Array.getElem?_eq_some_iff.1 hh).1;omega)),h.fS.chg hC,(h.fT.chg hC).snoc hlen (hf.chg hC),h.fW.chg hC⟩
theorem MkSt.pushW (h:MkSt w wr g c0 c1 c2 c3 ar ss tt m kS kT kW As cs At ct Aw cw vs us ws) {wx:World} {g6 cap:Nat} {b:Nat}
 (hown:wx.ownsRow w.heap.size 27 1 (.slice (some ⟨g6,0,none⟩) (kW+1) cap) (kW+1) (ws++[.slice (some ⟨b,0,none⟩) m m]))
 (hg:wr.grownBy wx (Value.slice Aw kW cw).ownBlock) (hat:(Value.slice Aw kW cw).ownBlock=some g6∨g6=wr.heap.size) (hlt:g6 < wx.heap.size) (hB:w.heap.size≤b) (hf:FinR wr b m) (hn:∀ (i:Nat),ws[i]?≠some (.slice (some ⟨b,0,none⟩) m m)) :
 MkSt w (wx.setCell ⟨g,6,none⟩ (.slice (some ⟨g6,0,none⟩) (kW+1) cap)) g c0 c1 c2 c3 ar ss tt m kS kT (kW+1) As cs At ct (some ⟨g6,0,none⟩) cap vs us (ws++[.slice (some ⟨b,0,none⟩) m m]):=by
 have hrow:∀ b,(Value.slice Aw kW cw).ownBlock=some b→w.heap.size≤b∧∃ c,wr.heap[b]?=some (.cells c 27 (0,0)):=fun b hb=>by
  have e:=ownsRow_blk h.oW hb;subst e;exact ownsRow_atZ h.oW
 have hC1:ChgM wr wx:=ChgM.of_grown hg fun b hb=>by
  obtain ⟨_,c,hh⟩:=hrow b hb;exact ⟨c,_,hh,.inr (.inr rfl)⟩
 have hgx:wx.heap[g]?=wr.heap[g]?:=hg.block g h.glt fun e=>by
  obtain ⟨_,c,hh⟩:=hrow g e.symm;exact ty_ne h.bx hh (by decide) rfl
 have hC2:ChgM wx (wx.setCell ⟨g,6,none⟩ (.slice (some ⟨g6,0,none⟩) (kW+1) cap)):=ChgM.of_set (hgx.trans h.bx);have hC:=hC1.trans hC2;have hE1:Ext w wx:=Ext.grown h.ex hg fun b hb=>(hrow b hb).1;have hset:∀ b,b≠g→(wx.setCell ⟨g,6,none⟩ (.slice (some ⟨g6,0,none⟩) (kW+1) cap)).heap[b]?=wx.heap[b]?:=fun b hb=>Below.heap_setCell _ _ _ _ hb;have h6g:g6≠g:=by
  rcases hat with e | e
  .obtain ⟨_,c,hh⟩:=hrow g6 e;exact fun e2=>ty_ne hh (e2 ▸ h.bx) (by decide) rfl
  .have:=h.glt;omega
 have hoth:∀ {e:TypeId} {A:Option Addr} {n k c:Nat} {xs:List Value},wr.ownsRow w.heap.size e 1 (.slice A n c) k xs→113≠e→(∀ b,A=some ⟨b,0,none⟩→(Value.slice Aw kW cw).ownBlock≠some b)→(wx.setCell ⟨g,6,none⟩ (.slice (some ⟨g6,0,none⟩) (kW+1) cap)).ownsRow w.heap.size e 1 (.slice A n c) k xs:=fun {e A n k c xs} ho he hne=>ownsRow_heapZ ho fun b e2=>by
  subst e2;obtain ⟨_,cur,hh⟩:=ownsRow_atZ ho;have hbg:b≠g:=Ne.symm (ty_ne h.bx hh he);exact (hset b hbg).trans (hg.block b (Array.getElem?_eq_some_iff.1 hh).1 (Ne.symm (hne b rfl)))
 have hbx2:(wx.setCell ⟨g,6,none⟩ (.slice (some ⟨g6,0,none⟩) (kW+1) cap)).heap[g]?=some (.cells #[c0,c1,c2,c3,.slice As kS cs,.slice At kT ct,.slice (some ⟨g6,0,none⟩) (kW+1) cap] 113 (0,0)):=by
  have hb:=hgx.trans h.bx;simp [World.setCell,Array.getElem?_modify,hb]
 have hnew:(wx.setCell ⟨g,6,none⟩ (.slice (some ⟨g6,0,none⟩) (kW+1) cap)).ownsRow w.heap.size 27 1 (.slice (some ⟨g6,0,none⟩) (kW+1) cap) (kW+1) (ws++[.slice (some ⟨b,0,none⟩) m m]):=ownsRow_heapZ hown fun b e=>by cases e;exact hset g6 h6g
 have hlen:ws.length=kW:=by have:=h.oW.1;omega
 have hsg:(wx.setCell ⟨g,6,none⟩ (.slice (some ⟨g6,0,none⟩) (kW+1) cap)).heap[w.heap.size]?=some (.cells #[c0] 29 (0,0)):=(hC _ _ _ h.sg (by decide) (by decide) (by decide)).trans h.sg;refine ⟨hE1.set (by show _≤g;have:=h.gg;omega) _,h.gg,hbx2,hsg,hoth h.oS (by decide) (fun b e e2=>by subst e;obtain ⟨_,c,hh⟩:=hrow b e2;obtain ⟨_,c',hh'⟩:=ownsRow_atZ h.oS;exact ty_ne hh hh' (by decide) rfl),hoth h.oT (by decide) (fun b e e2=>by subst e;obtain ⟨_,c,hh⟩:=hrow b e2;obtain ⟨_,c',hh'⟩:=ownsRow_atZ h.oT;exact ty_ne hh hh' (by decide) rfl),hnew,h.ap,h.fS.chg hC,h.fT.chg hC,(h.fW.chg hC).snoc hlen hB (hf.chg hC) hn⟩
end

