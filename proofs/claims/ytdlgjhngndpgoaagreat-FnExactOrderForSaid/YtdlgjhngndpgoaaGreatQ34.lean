/- -/
import Derived.Test.YtdlgjhngndpgoaaGreatQ20
set_option maxRecDepth 100000
set_option maxHeartbeats 16000000
set_option linter.all false
namespace Go.Proofs.YtdlgjhngndpgoaaGreat
def tri (a b:Int):Int:=if a * b≤20001 then a * b else 20001
def times (n b:Int):Int:=if n < 0 then -1 else if 20000 < n * b then -1 else n * b
def enc (w:Int):Int:=if 20000 < w then -1 else w
theorem prod_bd {a b:Int} (ha:1≤a) (ha2:a≤20001) (hb:1≤b) (hb2:b≤9):1≤a * b∧a * b≤180009:=by
 constructor
 .have:=Int.mul_le_mul ha hb Zo Zo;omega
 .have:=Int.mul_le_mul ha2 hb2 Zo Zo;omega
theorem tri_bd {a b:Int} (ha:1≤a) (ha2:a≤20001) (hb:1≤b) (hb2:b≤9):1≤tri a b∧tri a b≤20001:=by
 have:=prod_bd ha ha2 hb hb2;unfold tri;split<;>omega
theorem times_enc {w b:Int} (h1:1≤w) (h2:w≤20001) (hb:1≤b):times (enc w) b=enc (tri w b):=by
 by_cases hw:20000 < w
 .obtain rfl:w=20001:=by omega
  have e1:enc 20001 = -1:=by decide
  have e2:tri 20001 b=20001:=by unfold tri;split<;>omega
  rw [e2,e1];rfl
 .have e1:enc w=w:=by unfold enc;rw [if_neg hw]
  rw [e1];unfold times tri enc
  generalize w * b=m
  rw [if_neg (show ¬ w < 0 by omega)]
  repeat' split
  all_goals omega
def wAt (most:Int):Nat→Int
 | 0=>1
 | k+1=>tri (tri (wAt most k) (most+1)) (k+1)
def pIt (most:Int):Nat→Int→Int
 | 0,p=>p
 | n+1,p=>tri (pIt most n p) most
def pAt (most:Int) (ar:List Int):Int:=ar.foldl (fun p n=>pIt most n.toNat (tri p (most+1))) 1
theorem wAt_bd {most:Int} (h1:1≤most) (h2:most≤3):∀ k,k≤8→1≤wAt most k∧wAt most k≤20001
 | 0,_=>by simp [wAt]
 | k+1,hk=>by
  have h:=wAt_bd h1 h2 k Zo;have h3:=tri_bd h.1 h.2 (b:=most+1) Zo Zo;exact tri_bd h3.1 h3.2 Zo Zo
theorem pIt_bd {most p:Int} (h1:1≤most) (h2:most≤3) (hp:1≤p∧p≤20001):∀ n,1≤pIt most n p∧pIt most n p≤20001
 | 0=>hp
 | n+1=>by
  have h:=pIt_bd h1 h2 hp n;exact tri_bd h.1 h.2 Zo Zo
theorem pAt_snoc (most:Int) (ar:List Int) (n:Int):pAt most (ar++[n])=pIt most n.toNat (tri (pAt most ar) (most+1)):=by simp [pAt,List.foldl_append]
theorem pAt_bd {most:Int} (h1:1≤most) (h2:most≤3) (ar:List Int):1≤pAt most ar∧pAt most ar≤20001:=by
 have:∀ (l:List Int) (p:Int),(1≤p∧p≤20001)→1≤l.foldl (fun p n=>pIt most n.toNat (tri p (most+1))) p∧l.foldl (fun p n=>pIt most n.toNat (tri p (most+1))) p≤20001:=by
  intro l
  induction l with
  | nil=>intro p hp;exact hp
  | cons n l ih=>intro p hp;exact ih _ (pIt_bd h1 h2 (tri_bd hp.1 hp.2 Zo Zo) _)
 exact this ar 1 Zo
def triW (ar:List Int) (most:Int):Int:=if sigOk ar=true∧1≤most∧most≤3 then enc (wAt most ar.length) else -1
def triP (ar:List Int) (most:Int):Int:=if sigOk ar=true∧1≤most∧most≤3 then enc (pAt most ar) else -1

