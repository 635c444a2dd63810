/- The program's functions on places of right terms. -/
import Derived.Test.YtjfoppllenmndaaTerm
import Derived.Test.YtjfoppllenmndaaMTree
import Derived.Test.YtjfoppllenmndaaMark
namespace Go.Proofs.Ytjfoppllenmndaa
open Go.RowKit
set_option linter.unusedSimpArgs false
set_option linter.unusedVariables false

/-- A list that the slice holds room for. -/
def RdIc (w : World) (v : Value) (xs : List Int) : Prop := ∃ A n c, v = .slice A n c ∧ (n ≤ c ∧ c ≤ 9223372036854775807) ∧ RI w A n xs
theorem RdIc.mk {w : World} {A : Option Addr} {n c : Nat} {xs : List Int} (hc : n ≤ c ∧ c ≤ 9223372036854775807) (h : RI w A n xs) : RdIc w (.slice A n c) xs := ⟨A, n, c, rfl, hc, h⟩
theorem RdIc.ext {w w' : World} {v : Value} {xs : List Int} (h : RdIc w v xs) (k : Ext w w') : RdIc w' v xs := by
  obtain ⟨A, n, c, e, hc, h1⟩ := h; exact ⟨A, n, c, e, hc, h1.ext k⟩
theorem RdIc.rd {w : World} {v : Value} {xs : List Int} (h : RdIc w v xs) : RdI w v xs := by
  obtain ⟨A, n, c, e, hc, h1⟩ := h; exact ⟨A, n, c, e, h1⟩
theorem OwI.cap {w : World} {B : Nat} {A : Option Addr} {n c : Nat} {xs : List Int} (h : OwI w B A n c xs) : n ≤ c ∧ c ≤ 9223372036854775807 := by
  rcases h.2.2 with ⟨hv, hn⟩ | ⟨g, cap, cur, hv, hg, hh, h1, h2, _⟩
  · cases hv; omega
  · cases hv; exact ⟨h1, h2⟩
theorem RI.sub {w : World} {b o n : Nat} {xs ys rest : List Int} {p : Nat} (h : RI w (some ⟨b, o, none⟩) n xs) (hd : xs.drop p = ys ++ rest) : RI w (some ⟨b, o + p, none⟩) ys.length ys := by
  have hl : ys.length ≤ n - p := by
    have := congrArg List.length hd
    rw [List.length_drop, List.length_append, h.len] at this; omega
  refine ⟨⟨rfl, by have := h.le; omega⟩, fun hn => ⟨b, o + p, rfl, fun j x hx => ?_⟩⟩
  obtain ⟨b', o', e, hc⟩ := h.2 (by omega)
  cases e
  have hj : j < ys.length := (List.getElem?_eq_some_iff.1 hx).1
  have e2 : xs[p + j]? = some x := by
    rw [← List.getElem?_drop, hd, List.getElem?_append_left hj]; exact hx
  rw [Nat.add_assoc]
  exact hc _ _ e2
theorem drop_lt {xs ys rest : List Int} {p : Nat} (hd : xs.drop p = ys ++ rest) (h : 1 ≤ ys.length) : p + ys.length ≤ xs.length := by
  have := congrArg List.length hd
  rw [List.length_drop, List.length_append] at this; omega
theorem drop_head {xs us rest : List Int} {x : Int} {p : Nat} (hd : xs.drop p = (x :: us) ++ rest) : xs[p]? = some x := by
  have e : (xs.drop p)[0]? = some x := by rw [hd]; rfl
  rwa [List.getElem?_drop, Nat.add_zero] at e

/-- A slice of Go's ints of the call's own. -/
def OwN (w : World) (B : Nat) (A : Option Addr) (n c : Nat) (xs : List Int) : Prop := n ≤ 4194304 ∧ w.ownsRow B 3 1 (.slice A n c) n (xs.map (Value.int .i64))
section
variable {w w' : World} {B : Nat} {A : Option Addr} {n c : Nat} {xs : List Int}
theorem OwN.len (h : OwN w B A n c xs) : xs.length = n := by
  have := h.2.1; simpa using this
theorem OwN.ri (h : OwN w B A n c xs) : RI w A n xs := by
  refine ⟨⟨h.len, h.1⟩, fun hn => ?_⟩
  obtain ⟨g, cap, hv, _, hlt⟩ := World.ownsRow.form h.2 hn
  cases hv
  refine ⟨g, 0, rfl, fun j x hx => ?_⟩
  have hj : j < n := by have := (List.getElem?_eq_some_iff.1 hx).1; rw [h.len] at this; exact this
  have := World.ownsRow.cellAt h.2 j (by omega)
  rw [Nat.zero_add, this]
  simp [hx]
theorem OwN.ext (h : OwN w B A n c xs) (k : Ext w w') : OwN w' B A n c xs := by
  refine ⟨h.1, h.2.1, ?_⟩
  rcases h.2.2 with h2 | ⟨g, cap, cur, hv, hg, hh, r⟩
  · exact .inl h2
  · exact .inr ⟨g, cap, cur, hv, hg, (k.block g (Array.getElem?_eq_some_iff.1 hh).1).trans hh, r⟩
theorem OwN.alloc (h : OwN w B A n c xs) (o : Obj) : OwN (w.alloc o) B A n c xs := h.ext (Ext.alloc (Ext.refl _) o)
theorem OwN.ob (h : OwN w B A n c xs) : ∀ k, (Value.slice A n c).ownBlock = some k → B ≤ k := by
  intro k hk
  rcases h.2.2 with ⟨hv, _⟩ | ⟨g, cap, cur, hv, hg, _⟩
  · cases hv; cases hk
  · cases hv; cases hk; exact hg
end

/-- A list of the call's own, with room for all. -/
def NewIc (w : World) (xs : List Int) (e : Ending) (w' : World) : Prop := NewI w xs e w'
theorem NewIc.out {w w' : World} {xs : List Int} {e : Ending} (h : NewIc w xs e w') : ∃ v, e = .returned v ∧ RdIc w' v xs ∧ Ext w w' := by
  obtain ⟨A, n, c, e, h1, h2⟩ := h; exact ⟨_, e, RdIc.mk h1.cap h1.ri, h2⟩
theorem c_toInt64Sc {v : Value} {xs : List Int} {w : World} (h0 : RdI w v xs) : Calls Try.prog 24 #[v] w (NewIc w xs) := c_toInt64S h0
theorem c_endAt_flat {v0 v1 : Value} {ar t rest : List Int} {p : Nat} {u : Tm} {w : World} (h0 : RdSig w v0 ar) (h1 : RdI w v1 t) (hs : SigP ar) (hu : u.Ok ar) (hd : t.drop p = u.flat ++ rest) :
    Calls Try.prog 88 #[v0, v1, .int .i64 (p : Int)] w fun e w' => e = .returned (.int .i64 ((p + u.flat.length : Nat) : Int)) ∧ Ext w w' :=
  (c_endAt (p := (p : Int)) h0 h1 hs (by omega) (by have := drop_lt hd (flat_pos u); omega)).mono fun e w' h => ⟨h.1.trans (ret_int (by rw [Int.toNat_natCast]; exact endI_flat hu hd)), h.2⟩

end Go.Proofs.Ytjfoppllenmndaa
