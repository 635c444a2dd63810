/- -/
import Derived.WalkSpells
import Derived.WalkLawsBesides
import Derived.Handy
import Derived.Deep.AppendLies
import Derived.Lib.Hide
import Derived.BigQuiet
import Derived.Test.YtiblbnkpjmmjaaaGreatRows
import Derived.BigGuardPart
import Derived.Test.YtiblbnkpjmmjaaaGreatQ09
set_option maxRecDepth 100000
set_option maxHeartbeats 16000000
set_option linter.all false
namespace Go.Proofs.YtiblbnkpjmmjaaaGreat
open Go.RowKit
theorem ret_bool {a b:Bool} (h:a=b):Ending.returned (.bool a)=.returned (.bool b):=by rw [h]
theorem ret_int {k:IntKind} {a b:Int} (h:a=b):Ending.returned (.int k a)=.returned (.int k b):=by rw [h]
def RI (w:World) (A:Option Addr) (n:Nat) (xs:List Int):Prop:=
 (xs.length=n∧n≤4194304)∧(0 < n→∃ b o,A=some ⟨b,o,none⟩∧∀ j x,xs[j]?=some x→w.cell? ⟨b,o+j,none⟩=some (.int .i64 x))
abbrev Ext (w w':World):Prop:=Below w.heap.size w w'
theorem Ext.refl (w:World):Ext w w:=Below.refl _ _
theorem Ext.trans {a b c:World} (h:Ext a b) (k:Ext b c):Ext a c:=Below.trans h (k.mono h.size)
theorem Ext.alloc {a w:World} (h:Ext a w) (o:Obj):Ext a (w.alloc o):=Below.alloc h h.size o
theorem Ext.drew {a w:World} (h:Ext a w):Ext a w.drew:=Below.drew h
theorem Ext.drewN {a w:World} (h:Ext a w) (n:Nat):Ext a (w.drewN n):=below_drewN h n
theorem Ext.keep {w w':World} (h:Ext w w') {p:Addr} {v:Value} (hc:w.cell? p=some v):w'.cell? p=some v:=
 (Below.cell h (World.block_lt_of_cell? w p hc)).trans hc
theorem Ext.grown {a w w':World} (h:Ext a w) {row:Option Nat} (hg:w.grownBy w' row) (hr:∀ k,row=some k→a.heap.size≤k):Ext a w':=Below.grown h hg h.size hr
theorem Ext.set {a w:World} (h:Ext a w) {p:Addr} (hp:a.heap.size≤p.block) (v:Value):Ext a (w.setCell p v):=Below.setCell h hp v
theorem extX {w w':World} (h:Ext w w':=by (repeat' (first | (with_reducible exact Ext.refl _) | (with_reducible assumption) | (with_reducible refine Ext.alloc ?_ _) | (with_reducible refine Ext.set ?_ ?_ _) | (with_reducible refine Ext.drewN ?_ _) | (with_reducible refine Ext.drew ?_) | (with_reducible refine Ext.trans ?_ (by with_reducible assumption)) | go_size))):Ext w w':=h
theorem sz_of {w w1:World} (h:Ext w w1):w.heap.size≤w1.heap.size:=h.size
theorem Zs {w w1:World} {n m:Nat} (h:Ext w w1) (e:w.heap.size=n:=by first | (simp only [World.size_alloc,World.size_setCell,World.size_drew];done) | (simp only [World.size_alloc,World.size_setCell,World.size_drew];rfl) | rfl) (e1:w1.heap.size=m:=by first | (simp only [World.size_alloc,World.size_setCell,World.size_drew];done) | (simp only [World.size_alloc,World.size_setCell,World.size_drew];rfl) | rfl):n≤m:=by subst e e1;exact h.size
theorem bcell {W w1:World} (hb:Ext W w1):(∀ b o,b < W.heap.size→w1.cell? ⟨b,o,none⟩=W.cell? ⟨b,o,none⟩)∧(∀ b o,b < W.heap.size→w1.frozen? ⟨b,o,none⟩=W.frozen? ⟨b,o,none⟩):=
 ⟨fun b o h=>Below.cell (p:=⟨b,o,none⟩) hb h,fun b o h=>Below.frozen (p:=⟨b,o,none⟩) hb h⟩
theorem RI.nil (w:World) (A:Option Addr):RI w A 0 []:=⟨⟨rfl,by omega⟩,fun h=>by omega⟩
theorem RI.len {w:World} {A:Option Addr} {n:Nat} {xs:List Int} (h:RI w A n xs):xs.length=n:=h.1.1
theorem RI.le {w:World} {A:Option Addr} {n:Nat} {xs:List Int} (h:RI w A n xs):n≤4194304:=h.1.2
theorem RI.ext {w w':World} {A:Option Addr} {n:Nat} {xs:List Int} (h:RI w A n xs) (k:Ext w w'):RI w' A n xs:=
 ⟨h.1,fun hn=>by
  obtain ⟨b,o,hA,hc⟩:=h.2 hn;exact ⟨b,o,hA,fun j x hx=>Ext.keep k (hc j x hx)⟩⟩
theorem RI.at_ {w:World} {A:Option Addr} {n k:Nat} {xs:List Int} (h:RI w A n xs) (hk:k < n) :
 ∃ b o x,A=some ⟨b,o,none⟩∧xs[k]?=some x∧w.cell? ⟨b,o+k,none⟩=some (.int .i64 x):=by
 obtain ⟨b,o,hA,hc⟩:=h.2 (by omega);have hl:k < xs.length:=by rw [h.len];exact hk
 exact ⟨b,o,xs[k],hA,List.getElem?_eq_getElem hl,hc k _ (List.getElem?_eq_getElem hl)⟩
def OwI (w:World) (B:Nat) (A:Option Addr) (n c:Nat) (xs:List Int):Prop:=n≤4194304∧w.ownsRow B 2 1 (.slice A n c) n (xs.map (Value.int .i64))
section
variable {w w':World} {B B':Nat} {A:Option Addr} {n c:Nat} {xs:List Int}
theorem OwI.len (h:OwI w B A n c xs):xs.length=n:=by
 have:=h.2.1;simpa using this
theorem OwI.le (h:OwI w B A n c xs):n≤4194304:=h.1
theorem OwI.ri (h:OwI w B A n c xs):RI w A n xs:=by
 refine ⟨⟨h.len,h.1⟩,fun hn=>?_⟩;obtain ⟨g,cap,hv,_,hlt⟩:=World.ownsRow.form h.2 hn;cases hv;refine ⟨g,0,rfl,fun j x hx=>?_⟩;have hj:j < n:=by have:=(List.getElem?_eq_some_iff.1 hx).1;rw [h.len] at this;exact this
 have:=World.ownsRow.cellAt h.2 j (by omega);rw [Nat.zero_add,this];simp [hx]
theorem OwI.form (h:OwI w B A n c xs):(A=none∧n=0∧c=0)∨∃ g,A=some ⟨g,0,none⟩∧B≤g∧g < w.heap.size:=by
 rcases h.2.2 with ⟨hv,hn⟩ | ⟨g,cap,cur,hv,hg,hh,_⟩
 .cases hv;exact .inl ⟨rfl,rfl,rfl⟩
 .cases hv;exact .inr ⟨g,rfl,hg,(Array.getElem?_eq_some_iff.1 hh).1⟩
theorem OwI.heap (h:OwI w B A n c xs) (hk:∀ g,A=some ⟨g,0,none⟩→w'.heap[g]?=w.heap[g]?):OwI w' B A n c xs:=by
 refine ⟨h.1,h.2.1,?_⟩;rcases h.2.2 with h2 | ⟨g,cap,cur,hv,hg,hh,r⟩
 .exact .inl h2
 .have hA:A=some ⟨g,0,none⟩:=by cases hv;rfl
  exact .inr ⟨g,cap,cur,hv,hg,by rw [hk g hA];exact hh,r⟩
theorem OwI.lower (h:OwI w B A n c xs) (hB:B'≤B):OwI w B' A n c xs:=by
 refine ⟨h.1,h.2.1,?_⟩;rcases h.2.2 with h2 | ⟨g,cap,cur,hv,hg,r⟩
 .exact .inl h2
 .exact .inr ⟨g,cap,cur,hv,by omega,r⟩
theorem OwI.ext (h:OwI w B A n c xs) (k:Ext w w'):OwI w' B A n c xs:=by
 refine h.heap fun g hg=>?_;rcases h.form with ⟨h0,_⟩ | ⟨g',hA,_,hlt⟩
 .rw [h0] at hg;cases hg
 .rw [hA] at hg;cases hg;exact k.block g hlt
theorem OwI.drewN (h:OwI w B A n c xs) (k:Nat):OwI (w.drewN k) B A n c xs:=h
theorem OwI.bd (h:OwI w B A n c xs):∀ g o s,A=some ⟨g,o,s⟩→B≤g∧g < w.heap.size:=by
 intro g o s hA;rcases h.form with ⟨h0,_⟩ | ⟨g',hA',hlo,hlt⟩
 .rw [h0] at hA;cases hA
 .rw [hA'] at hA;cases hA;exact ⟨hlo,hlt⟩
theorem OwI.setFar (h:OwI w B A n c xs) {p:Addr} (v:Value) (hp:∀ g o s,A=some ⟨g,o,s⟩→g≠p.block):OwI (w.setCell p v) B A n c xs:=by
 refine h.heap fun g hg=>?_;rw [Below.heap_setCell _ _ _ _ (hp _ _ _ hg)]
theorem OwI.alloc (h:OwI w B A n c xs) (o:Obj):OwI (w.alloc o) B A n c xs:=h.ext (Ext.alloc (Ext.refl _) o)
theorem OwI.at_ {g k:Nat} (h:OwI w B (some ⟨g,0,none⟩) n c xs) (hk:k < n):∃ x,xs[k]?=some x∧w.cell? ⟨g,k,none⟩=some (.int .i64 x)∧w.frozen? ⟨g,k,none⟩=false:=by
 have hl:k < xs.length:=by rw [h.len];exact hk
 refine ⟨xs[k],List.getElem?_eq_getElem hl,?_,World.ownsRow.frozenAt h.2 k⟩;rw [World.ownsRow.cellAt h.2 k (by omega)];simp [hl]
theorem OwI.set {g:Nat} (h:OwI w B (some ⟨g,0,none⟩) n c xs) (k:Nat) (y:Int):OwI (w.setCell ⟨g,k,none⟩ (.int .i64 y)) B (some ⟨g,0,none⟩) n c (xs.set k y):=by
 have:=(World.ownsRow.stored h.2 k (.int .i64 y)).1;exact ⟨h.1,by simpa [List.map_set] using this⟩
theorem OwI.made (h:w.ownsRow B 2 1 (.slice A n c) n (xs.map (Value.int .i64))) (hn:n≤4194304):OwI w B A n c xs:=⟨hn,h⟩
end
def RdI (w:World) (v:Value) (xs:List Int):Prop:=∃ A n c,v=.slice A n c∧RI w A n xs
theorem RdI.mk {w:World} {A:Option Addr} {n c:Nat} {xs:List Int} (h:RI w A n xs):RdI w (.slice A n c) xs:=⟨A,n,c,rfl,h⟩
theorem RdI.ext {w w':World} {v:Value} {xs:List Int} (h:RdI w v xs) (k:Ext w w'):RdI w' v xs:=by
 obtain ⟨A,n,c,e,h1⟩:=h;exact ⟨A,n,c,e,h1.ext k⟩
def NewI (w:World) (xs:List Int) (e:Ending) (w':World):Prop:=∃ A n c,e=.returned (.slice A n c)∧OwI w' w.heap.size A n c xs∧Ext w w'
theorem madeInts (n:Nat):(madeCells #[Value.int .i64 0] n).toList=(List.replicate n (0:Int)).map (Value.int .i64):=by
 apply List.ext_getElem?;intro j;simp only [madeCells,Array.toList_map,Array.toList_range,List.getElem?_map,List.getElem?_replicate];rcases Nat.lt_or_ge j n with h | h
 .simp [h,Nat.mod_one]
 .simp [Nat.not_lt.2 h]
theorem set_take {xs:List Int} {k n:Nat} {x:Int} (hn:xs.length=n) (hx:xs[k]?=some x) :
 (xs.take k++List.replicate (n - k) 0).set k x=xs.take (k+1)++List.replicate (n - (k+1)) 0:=by
 obtain ⟨hk,rfl⟩:=List.getElem?_eq_some_iff.1 hx;have e1:(xs.take k).length=k:=by rw [List.length_take,Nat.min_eq_left (by omega)]
 rw [List.set_append_right k _ (by omega),e1,Nat.sub_self];obtain ⟨m,hm⟩:∃ m,n - k=m+1:=⟨n - k - 1,by omega⟩;rw [hm,List.replicate_succ,List.set_cons_zero,List.take_succ_eq_append_getElem hk,show n - (k+1)=m from by omega,List.append_assoc,List.singleton_append]
theorem beq_of_get {xs ys:List Int} (hl:xs.length=ys.length) (h:∀ j,j < xs.length→xs[j]?=ys[j]?):(xs == ys)=true:=by
 simp;apply List.ext_getElem?;intro j;rcases Nat.lt_or_ge j xs.length with hj | hj
 .exact h j hj
 .rw [List.getElem?_eq_none hj,List.getElem?_eq_none (by omega)]
theorem beq_false_len {xs ys:List Int} (hl:xs.length≠ys.length):(xs == ys)=false:=by
 simp;rintro rfl;exact hl rfl
theorem beq_false_get {xs ys:List Int} {k:Nat} {x y:Int} (hx:xs[k]?=some x) (hy:ys[k]?=some y) (h:x≠y):(xs == ys)=false:=by
 simp;rintro rfl;rw [hx] at hy;cases hy;exact h rfl
end Go.Proofs.YtiblbnkpjmmjaaaGreat
namespace Go.Proofs.YtiblbnkpjmmjaaaGreat
theorem take_snoc {α:Type} {ar:List α} {k:Nat} {x:α} (hx:ar[k]?=some x):ar.take (k+1)=ar.take k++[x]:=by
 obtain ⟨hk,rfl⟩:=List.getElem?_eq_some_iff.1 hx;exact List.take_succ_eq_append_getElem hk
def SigP (ar:List Int):Prop:=1≤ar.length∧ar.length≤8∧∀ n∈ar,0≤n∧n≤3
instance (ar:List Int):Decidable (SigP ar):=by unfold SigP;infer_instance
def sigOk (ar:List Int):Bool:=decide (SigP ar)
theorem sigOk_iff {ar:List Int}:sigOk ar=true↔SigP ar:=by simp [sigOk]
theorem sigOk_len {ar:List Int} (h:¬ (1≤ar.length∧ar.length≤8)):sigOk ar=false:=by
 simp only [sigOk,decide_eq_false_iff_not];rintro ⟨a,b,_⟩;exact h ⟨a,b⟩
theorem sigOk_at {ar:List Int} {k:Nat} {x:Int} (hx:ar[k]?=some x) (h:¬ (0≤x∧x≤3)):sigOk ar=false:=by
 simp only [sigOk,decide_eq_false_iff_not];rintro ⟨_,_,c⟩;exact h (c x (List.mem_of_getElem? hx))
theorem sigOk_all {ar:List Int} (h1:1≤ar.length) (h2:ar.length≤8) (h:∀ j x,j < ar.length→ar[j]?=some x→0≤x∧x≤3):sigOk ar=true:=by
 refine sigOk_iff.2 ⟨h1,h2,fun n hn=>?_⟩;obtain ⟨j,hj,e⟩:=List.mem_iff_getElem.1 hn;exact h j n hj (by rw [List.getElem?_eq_getElem hj,e])
open Go.RowKit
theorem int64_info:(Tryz.prog.info? 2).map (fun i=>(i.zero,i.size,i.bytes))=some (some (.int .i64 0),1,8):=by kernel_rfl
theorem c_SameTerm {v0 v1:Value} {xs ys:List Int} {w:World} (h0:RdI w v0 xs) (h1:RdI w v1 ys) :
 Calls Tryz.prog 85 #[v0,v1] w fun e w'=>e=.returned (.bool (xs == ys))∧Ext w w':=by
 obtain ⟨A,n,c,rfl,ha⟩:=h0;obtain ⟨B,m,d,rfl,hb⟩:=h1;have hn:=ha.le;have hm:=hb.le;by_cases hnm:n=m
 .subst hnm;have hnn:((n:Int) != (n:Int))=false:=by simp
  have HA:=Lib.hid ha;have HB:=Lib.hid hb;go_enter Tryz.func85,Tryz.ntmps85;go_wp2;go_loopw [5] (fun i wr=>∃ k:Nat,i=.int .i64 k∧k≤n∧Hid (∀ j,j < k→xs[j]?=ys[j]?)∧Ext w wr) (fun i _=>n - (intOf i).toNat)
  case atStart=>exact ⟨0,rfl,Nat.zero_le _,fun j hj=>by omega,Ext.refl _⟩
  case round=>
   obtain ⟨k,rfl,hk,hp,hw⟩:=hrel;by_cases hlt:k < n
   .obtain ⟨b,o,x,rfl,hx,hcx⟩:=RI.at_ (RI.ext HA.out hw) hlt;obtain ⟨b',o',y,rfl,hy,hcy⟩:=RI.at_ (RI.ext HB.out hw) hlt;have HX:=Lib.hid hx;have HY:=Lib.hid hy;clear hx hy;have hlt':(k:Int) < (n:Int):=by omega
    go_wp2;go_quiet (fail)
    go_wp2
    .have hne:(x != y)=true:=by assumption
     go_ret;exact ⟨ret_bool (beq_false_get HX.out HY.out (by simpa using hne)).symm,Ext.drewN hw _⟩
    .have hne:(x != y)=false:=by assumption
     refine ⟨⟨k+1,by go_num,by omega,fun j hj=>?_,Ext.drewN hw _⟩,by simp [intOf];omega⟩;rcases Nat.lt_or_ge j k with h | h
     .exact hp.out j h
     .obtain rfl:j=k:=by omega
      rw [HX.out,HY.out];simpa using hne
   .go_wp2;go_ret;refine ⟨ret_bool (beq_of_get ?_ fun j hj=>?_).symm,hw⟩
    .rw [HA.out.len,HB.out.len]
    .rw [HA.out.len] at hj;exact hp.out j (by omega)
 .have hnn:((n:Int) != (m:Int))=true:=by simp;omega
  go_enter Tryz.func85,Tryz.ntmps85;go_wp2;go_ret;exact ⟨ret_bool (beq_false_len (by rw [ha.len,hb.len];exact hnm)).symm,Ext.refl _⟩
theorem c_slicesEqual {v0 v1:Value} {xs ys:List Int} {w:World} (h0:RdI w v0 xs) (h1:RdI w v1 ys) :
 Calls Tryz.prog 100 #[v0,v1] w fun e w'=>e=.returned (.bool (xs == ys))∧Ext w w':=by
 obtain ⟨A,n,c,rfl,ha⟩:=h0;obtain ⟨B,m,d,rfl,hb⟩:=h1;have hn:=ha.le;have hm:=hb.le;by_cases hnm:n=m
 .subst hnm;have hnn:((n:Int) != (n:Int))=false:=by simp
  have HA:=Lib.hid ha;have HB:=Lib.hid hb;go_enter Tryz.func100,Tryz.ntmps100;go_wp2;go_loopw [13] (fun i wr=>∃ k:Nat,i=.int .i64 k∧k≤n∧Hid (∀ j,j < k→xs[j]?=ys[j]?)∧Ext w wr) (fun i _=>n - (intOf i).toNat)
  case atStart=>exact ⟨0,rfl,Nat.zero_le _,fun j hj=>by omega,Ext.refl _⟩
  case round=>
   obtain ⟨k,rfl,hk,hp,hw⟩:=hrel;by_cases hlt:k < n
   .obtain ⟨b,o,x,rfl,hx,hcx⟩:=RI.at_ (RI.ext HA.out hw) hlt;obtain ⟨b',o',y,rfl,hy,hcy⟩:=RI.at_ (RI.ext HB.out hw) hlt;have HX:=Lib.hid hx;have HY:=Lib.hid hy;clear hx hy;have hlt':(k:Int) < (n:Int):=by omega
    go_wp2;go_quiet (fail)
    go_wp2
    .have hne:(x != y)=true:=by assumption
     go_ret;exact ⟨ret_bool (beq_false_get HX.out HY.out (by simpa using hne)).symm,Ext.drewN hw _⟩
    .have hne:(x != y)=false:=by assumption
     refine ⟨⟨k+1,by go_num,by omega,fun j hj=>?_,Ext.drewN hw _⟩,by simp [intOf];omega⟩;rcases Nat.lt_or_ge j k with h | h
     .exact hp.out j h
     .obtain rfl:j=k:=by omega
      rw [HX.out,HY.out];simpa using hne
   .go_wp2;go_ret;refine ⟨ret_bool (beq_of_get ?_ fun j hj=>?_).symm,hw⟩
    .rw [HA.out.len,HB.out.len]
    .rw [HA.out.len] at hj;exact hp.out j (by omega)
 .have hnn:((n:Int) != (m:Int))=true:=by simp;omega
  go_enter Tryz.func100,Tryz.ntmps100;go_wp2;go_ret;exact ⟨ret_bool (beq_false_len (by rw [ha.len,hb.len];exact hnm)).symm,Ext.refl _⟩
def RdSig (w:World) (v:Value) (ar:List Int):Prop:=∃ A n c,v=.agg #[.slice A n c]∧RI w A n ar
theorem RdSig.mk {w:World} {A:Option Addr} {n c:Nat} {xs:List Int} (h:RI w A n xs):RdSig w (.agg #[.slice A n c]) xs:=⟨A,n,c,rfl,h⟩
theorem RdSig.ext {w w':World} {v:Value} {xs:List Int} (h:RdSig w v xs) (k:Ext w w'):RdSig w' v xs:=by
 obtain ⟨A,n,c,e,h1⟩:=h;exact ⟨A,n,c,e,h1.ext k⟩
def NewSig (w:World) (xs:List Int) (e:Ending) (w':World):Prop:=∃ A n c,e=.returned (.agg #[.slice A n c])∧OwI w' w.heap.size A n c xs∧Ext w w'
end Go.Proofs.YtiblbnkpjmmjaaaGreat
namespace Go.Proofs.YtiblbnkpjmmjaaaGreat
open Go.Conc
set_option maxRecDepth 100000
noncomputable def fnL:List FuncId:=[9,30,32,27,100,23,24,31,33,19,89,51,52,58,53,75,77,79,47,54,55,64,35,45,48,109,76,103,105,90,66,67,118,104,107,85,110,92,93,94,121,112,98,122,123,124,119,113,99,142,10,34,56,57,78,80,143,144,145,146,147,148,149,16,4,5,17,18,15,6,43,44,111,91,65,20,7,8,13,11,21,25,26,22,28,29,12,39,40,36,46,49,50,37,38,60,61,62,68,69,70,71,72,73,74,59,86,87,95,96,97,101,102,81,82,83,84,108,114,115,116,106,117,120]
noncomputable def fnB:FuncId→Bool:=fun f=>fnL.contains f
noncomputable def tyB:TypeId→Bool:=fun t=>t == 95 || (t == 96 || t == 9)
noncomputable def LM (m:Nat):Lim:={ fn:=fun f=>fnB f=true,bad:=Tryz.prog.types.size,ty:=fun t=>tyB t=true,g:=0,m:=m }
theorem fns_ok:(fnL.all (fnOkB Tryz.prog fnB tyB))=true:=by kernel_rfl
theorem fn_of (m : Nat) {f : FuncId} (h : (LM m).fn f) : ∃ fn c, Tryz.prog.funcs[f]? = some fn ∧ fn.body = some c ∧ CodeOK Tryz.prog (LM m) c ∧ (fn.name == "runtime.NumGoroutine") = false :=
 fnOkB_ok (fun _ h=>h) (fun _ h=>h) (List.all_eq_true.1 fns_ok f (List.contains_iff_mem.1 h))
theorem FnsM (m:Nat):FnsOK Tryz.prog (LM m):=⟨fun f h=>by obtain ⟨fn,c,h1,h2,h3,_⟩:=fn_of m h;exact ⟨fn,c,h1,h2,h3⟩⟩
theorem gl_ok:Tryz.prog.globals.size=0:=by kernel_rfl
theorem gM (m:Nat):Tryz.prog.globals.size≤(LM m).g:=by rw [gl_ok];exact Nat.le_refl _
theorem zeros_ok:(Tryz.prog.types.toList.all fun i=>match i.zero with | some z=>goodV 9 z | none=>true)=true:=by kernel_rfl
theorem dec0:Made.decode 0=none:=by decide
theorem bad_ok:Tryz.prog.info? Tryz.prog.types.size=none:=by
 have e:∀ T:Tables,T.info? T.types.size=none:=fun T=>by
  unfold Tables.info?;rw [if_neg (Nat.lt_irrefl _)];show Made.infoAt T (99+1) T.types.size=none;unfold Made.infoAt;rw [if_neg (Nat.lt_irrefl _),Nat.sub_self,dec0]
  rfl
 exact e _
noncomputable def metB (t:TypeId):Bool:=match Tryz.prog.info? t with
 | some i=>i.methods.toList.all fun m=>m.path.toList.isEmpty && (match m.func with | some (f,false)=>fnB f | _=>false)
 | none=>true
theorem met_ok:(metB 95 && (metB 96 && metB 9))=true:=by kernel_rfl
noncomputable def undB (t:TypeId):Bool:=match Tryz.prog.underlying t with | some (.pointer _)=>false | _=>true
theorem und_ok:(undB 95 && (undB 96 && undB 9))=true:=by kernel_rfl
theorem ty_of {m:Nat} {t:TypeId} (h:(LM m).ty t):t=95∨t=96∨t=9:=by
 have:(t == 95 || (t == 96 || t == 9))=true:=h
 simpa using this
theorem met_of {m:Nat} {t:TypeId} (h:(LM m).ty t):metB t=true∧undB t=true:=by
 have h1:=met_ok;have h2:=und_ok;rw [Bool.and_eq_true,Bool.and_eq_true] at h1 h2;rcases ty_of h with rfl | rfl | rfl
 .exact ⟨h1.1,h2.1⟩
 .exact ⟨h1.2.1,h2.2.1⟩
 .exact ⟨h1.2.2,h2.2.2⟩
theorem info_lt {t:TypeId} (ht:t < Tryz.prog.types.size):Tryz.prog.info? t=Tryz.prog.types[t]?:=by
 show (if t < Tryz.prog.types.size then Tryz.prog.types[t]? else _)=_;rw [if_pos ht]
theorem PLM (m:Nat):PL Tryz.prog (LM m):=by
 refine ⟨fun t i z ht hi hz β=>?_,fun f h=>?_,bad_ok,fun t ht i hi n mt hm=>?_,fun t ht e he=>?_⟩
 .rw [info_lt ht] at hi;have:=List.all_eq_true.1 zeros_ok i (Array.mem_toList_iff.2 (Array.mem_of_getElem? hi));rw [hz] at this;exact goodV_ok this
 .obtain ⟨fn,c,h1,h2,h3,h4⟩:=fn_of m h;exact ⟨fn,h1,h4,by rw [h2];rfl⟩
 .have hk:=(met_of ht).1;unfold metB at hk;rw [hi] at hk;have:=List.all_eq_true.1 hk mt (by
   have:=List.mem_of_find?_eq_some (l:=i.methods.toList) (by rw [Array.find?_toList];exact hm);exact this)
  rw [Bool.and_eq_true] at this;refine ⟨by simpa using this.1,?_⟩;have h2:=this.2;split at h2
  .rename_i f hf
   exact ⟨f,hf,h2⟩
  .cases h2
 .have hk:=(met_of ht).2;unfold undB at hk;rw [he] at hk;cases hk
end Go.Proofs.YtiblbnkpjmmjaaaGreat
namespace Go.Proofs.YtiblbnkpjmmjaaaGreat
def arI (ar:List Int) (x:Int):Option Nat:=if x < 0 then some 0 else if x < ar.length then some (ar.getD x.toNat 0).toNat else none
def arS (ar:List Int) (x:Int):Option Nat:=if -24≤x∧x≤-1 then some 0 else if 0≤x∧x < ar.length then some (ar.getD x.toNat 0).toNat else none
def scan (f:Int→Option Nat):List Int→Nat→Option Nat
 | _,0=>some 0
 | [],_+1=>none
 | x :: xs,nd+1=>match f x with
  | none=>none
  | some a=>(scan f xs (nd+a)).map (· + 1)
theorem scan_zero (f:Int→Option Nat) (t:List Int):scan f t 0=some 0:=by cases t<;>rfl
theorem scan_nil (f:Int→Option Nat) (nd:Nat):scan f [] (nd+1)=none:=rfl
theorem scan_cons_none {f:Int→Option Nat} {x:Int} {xs:List Int} {nd:Nat} (h:f x=none):scan f (x :: xs) (nd+1)=none:=by rw [scan,h]
theorem scan_cons_some {f:Int→Option Nat} {x:Int} {xs:List Int} {nd a:Nat} (h:f x=some a):scan f (x :: xs) (nd+1)=(scan f xs (nd+a)).map (· + 1):=by rw [scan,h]
theorem arS_arI {ar:List Int} {x:Int} (h : -24≤x):arS ar x=arI ar x:=by
 unfold arS arI;by_cases h0:x < 0
 .rw [if_pos (by omega),if_pos h0]
 .rw [if_neg (by omega),if_neg h0];by_cases h1:x < ar.length
  .rw [if_pos ⟨by omega,h1⟩,if_pos h1]
  .rw [if_neg (by omega),if_neg h1]
theorem arS_lo {ar:List Int} {x:Int} {a:Nat} (h:arS ar x=some a) : -24≤x:=by
 unfold arS at h;by_cases h0 : -24≤x∧x≤-1
 .exact h0.1
 .rw [if_neg h0] at h;by_cases h1:0≤x∧x < ar.length
  .omega
  .rw [if_neg h1] at h;cases h
theorem scan_SI {ar:List Int}:∀ {t:List Int} {nd k:Nat},scan (arS ar) t nd=some k↔scan (arI ar) t nd=some k∧∀ x∈t.take k,-24≤x
 | _,0,k=>by
  rw [scan_zero,scan_zero];constructor
  .intro h;cases h;simp
  .exact fun h=>h.1
 | [],nd+1,k=>by rw [scan_nil,scan_nil];simp
 | x :: xs,nd+1,k=>by
  by_cases hx : -24≤x
  .have e:=arS_arI (ar:=ar) hx;rcases hf:arI ar x with _ | a
   .rw [scan_cons_none (e.trans hf),scan_cons_none hf];simp
   .rw [scan_cons_some (e.trans hf),scan_cons_some hf,Option.map_eq_some_iff,Option.map_eq_some_iff];constructor
    .rintro ⟨k',h,rfl⟩;have:=scan_SI.1 h;refine ⟨⟨k',this.1,rfl⟩,fun y hy=>?_⟩;rw [List.take_succ_cons] at hy;rcases List.mem_cons.1 hy with rfl | hy
     .exact hx
     .exact this.2 y hy
    .rintro ⟨⟨k',h,rfl⟩,hall⟩;exact ⟨k',scan_SI.2 ⟨h,fun y hy=>hall y (by rw [List.take_succ_cons];exact List.mem_cons_of_mem _ hy)⟩,rfl⟩
  .constructor
   .intro h;rcases hf:arS ar x with _ | a
    .rw [scan_cons_none hf] at h;cases h
    .exact absurd (arS_lo hf) hx
   .rintro ⟨h,hall⟩
    exfalso
    rcases hf:arI ar x with _ | a
    .rw [scan_cons_none hf] at h;cases h
    .rw [scan_cons_some hf] at h;obtain ⟨k',_,rfl⟩:=Option.map_eq_some_iff.1 h;exact hx (hall x (by rw [List.take_succ_cons];exact List.mem_cons_self))
def TermP (ar t:List Int):Prop:=SigP ar∧(1≤t.length∧t.length≤60)∧(∀ x∈t,-24≤x)∧scan (arI ar) t 1=some t.length
noncomputable def termOk (ar t:List Int):Bool:=@decide (TermP ar t) (Classical.propDecidable _)
theorem termOk_iff {ar t:List Int}:termOk ar t=true↔TermP ar t:=by simp [termOk]
theorem termOk_f {ar t:List Int} (h:¬ TermP ar t):termOk ar t=false:=by simp only [termOk,decide_eq_false_iff_not];exact h
theorem termOk_sig {ar t:List Int} (h:sigOk ar=false):termOk ar t=false:=termOk_f fun a=>by rw [sigOk_iff.2 a.1] at h;cases h
theorem termP_S {ar t:List Int}:TermP ar t↔SigP ar∧(1≤t.length∧t.length≤60)∧scan (arS ar) t 1=some t.length:=by
 unfold TermP;rw [scan_SI,List.take_length];constructor
 .rintro ⟨a,b,c,d⟩;exact ⟨a,b,d,c⟩
 .rintro ⟨a,b,d,c⟩;exact ⟨a,b,c,d⟩
def endF (f:Int→Option Nat) (t:List Int) (at_:Nat):Int:=match scan f (t.drop at_) 1 with
 | some k=>(at_+k:Nat)
 | none=>-1
def endI (ar t:List Int) (at_:Nat):Int:=endF (arI ar) t at_
def endS (ar t:List Int) (at_:Nat):Int:=endF (arS ar) t at_
theorem endF_len {f:Int→Option Nat} {t:List Int}:endF f t 0=t.length↔scan f t 1=some t.length:=by
 unfold endF;rw [List.drop_zero];rcases scan f t 1 with _ | k
 .simp;try omega
 .simp;try omega
def ScanAt (f:Int→Option Nat) (t:List Int) (at_ p nd:Nat):Prop:=at_≤p∧p≤t.length∧scan f (t.drop at_) 1=(scan f (t.drop p) nd).map (· + (p - at_))
theorem ScanAt.start {f:Int→Option Nat} {t:List Int} {at_:Nat} (h:at_≤t.length):ScanAt f t at_ at_ 1:=⟨Nat.le_refl _,h,by simp⟩
theorem ScanAt.done {f:Int→Option Nat} {t:List Int} {at_ p:Nat} (h:ScanAt f t at_ p 0):endF f t at_=p:=by
 obtain ⟨h1,_,h2⟩:=h;unfold endF;rw [h2,scan_zero];simp;omega
theorem ScanAt.out {f:Int→Option Nat} {t:List Int} {at_ p nd:Nat} (h:ScanAt f t at_ p (nd+1)) (hp:p=t.length):endF f t at_ = -1:=by
 obtain ⟨_,_,h2⟩:=h;unfold endF;rw [h2,hp,List.drop_length,scan_nil]
 rfl
theorem ScanAt.bad {f:Int→Option Nat} {t:List Int} {at_ p nd:Nat} {x:Int} (h:ScanAt f t at_ p (nd+1)) (hx:t[p]?=some x) (hf:f x=none):endF f t at_ = -1:=by
 obtain ⟨_,_,h2⟩:=h;obtain ⟨hl,rfl⟩:=List.getElem?_eq_some_iff.1 hx;unfold endF;rw [h2,List.drop_eq_getElem_cons hl,scan_cons_none hf]
 rfl
theorem ScanAt.step {f:Int→Option Nat} {t:List Int} {at_ p nd a:Nat} {x:Int} (h:ScanAt f t at_ p (nd+1)) (hx:t[p]?=some x) (hf:f x=some a):ScanAt f t at_ (p+1) (nd+a):=by
 obtain ⟨h1,h0,h2⟩:=h;obtain ⟨hl,rfl⟩:=List.getElem?_eq_some_iff.1 hx;refine ⟨by omega,by omega,?_⟩;rw [h2,List.drop_eq_getElem_cons hl,scan_cons_some hf,Option.map_map]
 congr 1
 funext k
 show k+1+(p - at_)=k+(p+1 - at_);omega
theorem arI_le {ar:List Int} (h:SigP ar) {x:Int} {a:Nat} (hx:arI ar x=some a):a≤3:=by
 unfold arI at hx;by_cases h0:x < 0
 .rw [if_pos h0] at hx;cases hx;omega
 .rw [if_neg h0] at hx;by_cases h1:x < ar.length
  .rw [if_pos h1] at hx;cases hx;have hl:x.toNat < ar.length:=by omega
   have:=h.2.2 ar[x.toNat] (List.getElem_mem hl);rw [List.getD_eq_getElem?_getD,List.getElem?_eq_getElem hl];simp only [Option.getD_some];omega
  .rw [if_neg h1] at hx;cases hx
def minL (t:List Int):Int:=match t with
 | []=>0
 | x :: xs=>xs.foldl (fun a b=>if b < a then b else a) x
theorem minL_snoc {t:List Int} {y:Int} (h:t≠[]):minL (t++[y])=if y < minL t then y else minL t:=by
 cases t with
 | nil=>exact absurd rfl h
 | cons x xs=>
  show List.foldl _ x (xs++[y])=_;rw [List.foldl_append];rfl
theorem minL_ge {t:List Int} {m:Int} (h:t≠[]):m≤minL t↔∀ x∈t,m≤x:=by
 cases t with
 | nil=>exact absurd rfl h
 | cons x xs=>
  have:∀ (l:List Int) (a:Int),m≤l.foldl (fun a b=>if b < a then b else a) a↔m≤a∧∀ x∈l,m≤x:=by
   intro l
   induction l with
   | nil=>intro a;simp
   | cons b l ih=>
    intro a;rw [List.foldl_cons,ih];by_cases hb:b < a
    .rw [if_pos hb];simp only [List.mem_cons,forall_eq_or_imp];constructor
     .rintro ⟨h1,h2⟩;exact ⟨by omega,h1,h2⟩
     .rintro ⟨h1,h2,h3⟩;exact ⟨h2,h3⟩
    .rw [if_neg hb];simp only [List.mem_cons,forall_eq_or_imp];constructor
     .rintro ⟨h1,h2⟩;exact ⟨h1,by omega,h2⟩
     .rintro ⟨h1,h2,h3⟩;exact ⟨h1,h3⟩
  show m≤xs.foldl _ x↔_;rw [this];simp
structure Ru where
 l:List Int
 r:List Int
structure Sy where
 ar:List Int
 rs:List Ru
def RuleP (ar:List Int) (r:Ru):Prop:=TermP ar r.l∧TermP ar r.r∧(∀ x,r.l[0]?=some x→0≤x)∧∀ x∈r.r,x < 0→x∈r.l
noncomputable def ruleOk (ar:List Int) (r:Ru):Bool:=@decide (RuleP ar r) (Classical.propDecidable _)
theorem ruleOk_iff {ar:List Int} {r:Ru}:ruleOk ar r=true↔RuleP ar r:=by simp [ruleOk]
theorem ruleOk_f {ar:List Int} {r:Ru} (h:¬ RuleP ar r):ruleOk ar r=false:=by simp only [ruleOk,decide_eq_false_iff_not];exact h
def SysP (s:Sy):Prop:=SigP s.ar∧s.rs.length≤12∧∀ (j:Nat) (r:Ru),s.rs[j]?=some r→RuleP s.ar r
noncomputable def sysOk (s:Sy):Bool:=@decide (SysP s) (Classical.propDecidable _)
theorem sysOk_iff {s:Sy}:sysOk s=true↔SysP s:=by simp [sysOk]
theorem sysOk_f {s:Sy} (h:¬ SysP s):sysOk s=false:=by simp only [sysOk,decide_eq_false_iff_not];exact h
theorem sysOk_sig {s:Sy} (h:sigOk s.ar=false):sysOk s=false:=sysOk_f fun a=>by rw [sigOk_iff.2 a.1] at h;cases h
theorem sysOk_len {s:Sy} (h:¬ s.rs.length≤12):sysOk s=false:=sysOk_f fun a=>h a.2.1
theorem sysOk_at {s:Sy} {j:Nat} {r:Ru} (hr:s.rs[j]?=some r) (h:ruleOk s.ar r=false):sysOk s=false:=sysOk_f fun a=>by rw [ruleOk_iff.2 (a.2.2 j r hr)] at h;cases h
theorem sysOk_all {s:Sy} (h1:sigOk s.ar=true) (h2:s.rs.length≤12) (h:∀ (j:Nat) (r:Ru),j < s.rs.length→s.rs[j]?=some r→ruleOk s.ar r=true):sysOk s=true:=
 sysOk_iff.2 ⟨sigOk_iff.1 h1,h2,fun j r hr=>ruleOk_iff.1 (h j r (List.getElem?_eq_some_iff.1 hr).1 hr)⟩
theorem inc_ext {xs ys:List Int} (hx:xs.Pairwise (· < ·)) (hy:ys.Pairwise (· < ·)) (h:∀ a,a∈xs↔a∈ys):xs=ys:=by
 induction xs generalizing ys with
 | nil=>
  cases ys with
  | nil=>rfl
  | cons y ys=>exact absurd ((h y).2 (List.mem_cons_self ..)) (by simp)
 | cons x xs ih=>
  cases ys with
  | nil=>exact absurd ((h x).1 (List.mem_cons_self ..)) (by simp)
  | cons y ys=>
   rw [List.pairwise_cons] at hx hy;have e:x=y:=by
    rcases List.mem_cons.1 ((h x).1 (List.mem_cons_self ..)) with e | e
    .exact e
    .have h1:=hy.1 x e;rcases List.mem_cons.1 ((h y).2 (List.mem_cons_self ..)) with e2 | e2
     .exact e2.symm
     .have:=hx.1 y e2;omega
   subst e
   congr 1
   refine ih hx.2 hy.2 fun a=>⟨fun ha=>?_,fun ha=>?_⟩
   .rcases List.mem_cons.1 ((h a).1 (List.mem_cons_of_mem _ ha)) with e2 | e2
    .have:=hx.1 a ha;omega
    .exact e2
   .rcases List.mem_cons.1 ((h a).2 (List.mem_cons_of_mem _ ha)) with e2 | e2
    .have:=hy.1 a ha;omega
    .exact e2

