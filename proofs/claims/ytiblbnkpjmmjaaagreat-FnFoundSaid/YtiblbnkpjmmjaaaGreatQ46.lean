/- -/
import Derived.Test.YtiblbnkpjmmjaaaGreatQ45
set_option maxRecDepth 100000
set_option maxHeartbeats 16000000
set_option linter.all false
namespace Go.Proofs.YtiblbnkpjmmjaaaGreat
open Go.RowKit
theorem RI.window {w:World} {b o N p m:Nat} {xs:List Int} (h:RI w (some ⟨b,o,none⟩) N xs) (hp:p+m≤N):RI w (some ⟨b,o+p,none⟩) m ((xs.drop p).take m):=by
 have hl:=h.len;refine ⟨⟨by rw [List.length_take,List.length_drop];omega,by have:=h.le;omega⟩,fun h0=>?_⟩;obtain ⟨b',o',e,hc⟩:=h.2 Zo;cases e;refine ⟨b,o+p,rfl,fun j x hx=>?_⟩;have hj:j < m:=by
  have:=(List.getElem?_eq_some_iff.1 hx).1;rw [List.length_take] at this;omega
 rw [List.getElem?_take,if_pos hj,List.getElem?_drop] at hx;rw [Nat.add_assoc];exact hc (p+j) x hx
theorem RI.windowE {w:World} {A:Option Addr} {p m:Nat} {xs:List Int} (hm:m=0):RI w A 0 ((xs.drop p).take m):=by
 subst hm;rw [List.take_zero];exact RI.nil _ _
theorem wp_append_poly {P:Program} {w1:World} {o:Oper} {a:Act} {K:Act→World→Prop} {Q:Exit→Act→World→Prop} (s x:Operand) (t:TypeId)
 (ho:o.op=.call { callee:=.builtin .append,args:=#[s,x],argTypes:=#[t,t] }) (i:TypeInfo) (ht:P.underlying t=some (.slice 82)) (hi:P.info? 82=some i) (hz:i.zero=some (.agg #[.int .i64 0,.slice none 0 0]))
 (hsize:i.size=2) (hby:i.bytes=32) {B top k c m d q:Nat} {A C:Option Addr} {fs:List Pl} {x0:Int} {xs:List Int} (hs:a.eval s=.slice A k c) (hO:OwD w1 B top A k c fs) (hq:q=w1.heap.size) (hx:a.eval x=.slice (some ⟨q,0,none⟩) 1 1) (hC:OwI w1 top C m d xs)
 (hk:k+1≤1000) (hB:B≤top) (htw:top≤w1.heap.size) (hfar:∀ b,(Value.slice A k c).ownBlock=some b→b < top)
 (hK:∀ A' c' w',OwD w' B w'.heap.size A' (k+1) c' (fs++[⟨x0,xs⟩])→(∀ w0,Ext w0 w1→w0.heap.size≤B→Ext w0 w')→K (a.put o.dst (.slice A' (k+1) c')) w') :
 o.wp P a (w1.alloc (.cells #[.int .i64 x0,.slice C m d] 82)) K Q:=by
 subst hq;obtain ⟨⟨hn9,hl9⟩,vs,ho9,hf9,hd9⟩:=hO.ext ((Ext.refl w1).alloc (.cells #[.int .i64 x0,.slice C m d] 82));have hml:=hC.len;refine wp_append_lies _ s x t ho B 82 i (.agg #[.int .i64 0,.slice none 0 0]) 2 32 ht hi hz hsize hby rfl (by decide) _ k vs hs ho9 ⟨w1.heap.size,0,none⟩ 1 1 [.int .i64 x0,.slice C m d] hx rfl (two_cells' (by simp [go_sem]) _ _ _) (two_one _ _ _ _) (by decide) (by unfold maxLen;omega) Zo (by simp only [World.size_alloc];omega) _ rfl (fun g cap wx hown hg hat hltg=>?_);have hsz:=hg.size;simp only [World.size_alloc] at hsz
 refine hK _ _ wx (OwD.push (f:=⟨x0,xs⟩) (top':=wx.heap.size) (A':=C) (c':=d) hO Zo (by rw [hml];exact hC.lower hB) (fun b o s e=>⟨(hC.bd b o s e).1,by have:=(hC.bd b o s e).2;omega⟩) Zo (fun b o s e e2=>by have h1:=(hC.bd b o s e).1;have h2:=hfar b e2;omega)
  (fun us hu=>by have e:=ownsRow_uniq (World.ownsRow.alloc hu (.cells #[.int .i64 x0,.slice C m d] 82)) ho9;subst e;rw [hml];exact hown) hg hat) (fun w0 h0 hb0=>Ext.grown (h0.alloc _) hg (fun b hb=>by have:=(hO.ob b hb).1;omega))
def TF (s:Sy) (xs:List Int):Prop:=polyAll true s (polysOf s.ar xs)=true
noncomputable def fpoO (s:Sy) (most:Int):Option (List Int):=
 @ite _ (sysOk s=true∧0≤triP s.ar most) (Classical.propDecidable _) (srch (TF s) (lowL s.ar) (List.replicate (offs s.ar) most) (cnt (lowL s.ar) (List.replicate (offs s.ar) most) - rkU (lowL s.ar) (lowL s.ar) (List.replicate (offs s.ar) most)) (lowL s.ar)) none
noncomputable def fpoV (s:Sy) (most:Int):List Pl:=((fpoO s most).map (polysOf s.ar)).getD []
theorem fpoO_no {s:Sy} {most:Int} (h:¬ (sysOk s=true∧0≤triP s.ar most)):fpoO s most=none:=if_neg h
theorem triP_in {ar:List Int} {most:Int} (h:0≤triP ar most):1≤most∧most≤3:=by
 unfold triP at h;split at h
 .rename_i h1;exact h1.2
 .omega
theorem orients_at {s:Sy} {most:Int} {xs:List Int} (hs:sysOk s=true) (hm:1≤most∧most≤3) (hb:Btw xs (lowL s.ar) (List.replicate (offs s.ar) most)) :
 PolysP s.ar (polysOf s.ar xs)∧polyOrients s (polysOf s.ar xs)=polyAll true s (polysOf s.ar xs):=by
 have hsp:=sysOk_iff.1 hs;have hsg:SigP s.ar:=hsp.1;have h0:∀ n∈s.ar,0≤n:=fun n hn=>(hsg.2.2 n hn).1;have hk:=polys_between hm.2 h0 hb;have hp:PolysP s.ar (polysOf s.ar xs):=⟨hsg,polysOf_len _ _,fun j p n h1 h2=>by
  obtain ⟨k1,k2,k3⟩:=hk j p n h1 h2;exact ⟨k1,k2,fun x hx=>by have:=k3 x hx;omega⟩⟩
 refine ⟨hp,?_⟩;have hst:strictIn s.ar (polysOf s.ar xs)=true:=strictIn_t (polysOk_iff.2 hp) fun p hp' x hx=>by
  obtain ⟨j,hj⟩:=List.mem_iff_getElem?.1 hp';have hjl:j < s.ar.length:=by have:=(List.getElem?_eq_some_iff.1 hj).1;rw [polysOf_len] at this;exact this
  exact ((hk j p _ hj (List.getElem?_eq_getElem hjl)).2.2 x hx).1
 unfold polyOrients;rw [hs,hst];rfl
def NewFs (w:World) (ps:List Pl) (b:Bool) (e:Ending) (w':World):Prop:=∃ A n c,e=.returned (.tuple #[.slice A n c,.bool b])∧OwD w' w.heap.size w'.heap.size A n c ps∧Ext w w'
theorem low_ge (ar:List Int) (most:Int):∀ (k:Nat) (l:Int),(lowL ar)[k]?=some l→-1000000≤l:=by
 have:∀ (ar:List Int),∀ x∈lowL ar,0≤x:=by
  intro ar
  induction ar with
  | nil=>intro x hx;simp [lowL] at hx
  | cons n ar ih=>
   intro x hx;rw [lowL] at hx;rcases List.mem_append.1 hx with hx | hx
   .rcases List.mem_cons.1 hx with rfl | hx
    .omega
    .rw [(List.mem_replicate.1 hx).2];omega
   .exact ih x hx
 intro k l hl;have:=this ar l (List.mem_of_getElem? hl);omega

