/- Plain: path orders. -/
import Derived.Test.YtleahogikppepaaMDep
namespace Go.Proofs.Ytleahogikppepaa
open Classical in
/-- Of arguments the first unlike ones. -/
noncomputable def lexG (W : Tm → Tm → Nat) : List Tm → List Tm → Bool
  | a :: ts, b :: ss => if a = b then lexG W ts ss else decide (0 < W a b)
  | _, _ => false
open Classical in
noncomputable def rmv (b : Tm) : List Tm → List Tm
  | [] => []
  | a :: as => if a = b then as else a :: rmv b as
open Classical in
/-- What stays of both bags where what is in both is taken out. -/
noncomputable def bagTwo : List Tm → List Tm → List Tm × List Tm
  | left, [] => (left, [])
  | left, b :: ss => if b ∈ left then bagTwo (rmv b left) ss else ((bagTwo left ss).1, b :: (bagTwo left ss).2)
def anyG (W : Tm → Tm → Nat) (left : List Tm) (b : Tm) : Bool := left.any fun a => decide (0 < W a b)
def allG (W : Tm → Tm → Nat) (left more : List Tm) : Bool := more.all fun b => anyG W left b
noncomputable def bagG (W : Tm → Tm → Nat) (ts ss : List Tm) : Bool := allG W (bagTwo ts ss).1 (bagTwo ts ss).2 && decide (0 < (bagTwo ts ss).1.length)
def overG (W : Tm → Tm → Nat) (t : Tm) (ss : List Tm) : Bool := ss.all fun b => decide (0 < W t b)
open Classical in
noncomputable def argG (W : Tm → Tm → Nat) (ts : List Tm) (s : Tm) : Bool := ts.any fun a => decide (a = s) || decide (0 < W a s)
def Tm.hd : Tm → Int
  | .node x _ => x
def Tm.as : Tm → List Tm
  | .node _ as => as
/-- Which condition holds first, where it is known below. -/
noncomputable def lpoB (rk : Int → Int) (lex : Bool) (W : Tm → Tm → Nat) (t s : Tm) : Nat :=
  if t.hd < 0 then 0 else if argG W t.as s = true then 1 else if s.hd < 0 then 0
  else if t.hd = s.hd then (if (if lex = true then overG W t s.as && lexG W t.as s.as else bagG W t.as s.as) = true then 3 else 0)
  else if rk s.hd < rk t.hd ∧ overG W t s.as = true then 2 else 0
noncomputable def lpoN (rk : Int → Int) (lex : Bool) : Nat → Tm → Tm → Nat
  | 0, _, _ => 0
  | n + 1, t, s => lpoB rk lex (lpoN rk lex n) t s
def Tm.sz (t : Tm) : Nat := t.flat.length
theorem sz_arg {t a : Tm} (h : a ∈ t.as) : a.sz < t.sz := by
  cases t with
  | node x as =>
    unfold Tm.sz
    rw [flat_node, List.length_cons]
    have := mem_flatL_len (show a ∈ as from h)
    omega
theorem any_congr {α : Type} {l : List α} {f g : α → Bool} (h : ∀ a ∈ l, f a = g a) : l.any f = l.any g := by
  induction l with
  | nil => rfl
  | cons a l ih => rw [List.any_cons, List.any_cons, h a (List.mem_cons_self), ih fun b hb => h b (List.mem_cons_of_mem _ hb)]
theorem all_congr {α : Type} {l : List α} {f g : α → Bool} (h : ∀ a ∈ l, f a = g a) : l.all f = l.all g := by
  induction l with
  | nil => rfl
  | cons a l ih => rw [List.all_cons, List.all_cons, h a (List.mem_cons_self), ih fun b hb => h b (List.mem_cons_of_mem _ hb)]
theorem lexG_congr {W W' : Tm → Tm → Nat} : ∀ {ts ss : List Tm}, (∀ a ∈ ts, ∀ b ∈ ss, W a b = W' a b) → lexG W ts ss = lexG W' ts ss
  | [], _, _ => by simp [lexG]
  | _ :: _, [], _ => by simp [lexG]
  | a :: ts, b :: ss, h => by
    unfold lexG
    rw [h a List.mem_cons_self b List.mem_cons_self, lexG_congr fun x hx y hy => h x (List.mem_cons_of_mem _ hx) y (List.mem_cons_of_mem _ hy)]
theorem rmv_sub {b a : Tm} : ∀ {l : List Tm}, a ∈ rmv b l → a ∈ l
  | [], h => by simp [rmv] at h
  | c :: l, h => by
    unfold rmv at h
    split at h
    · exact List.mem_cons_of_mem _ h
    · rcases List.mem_cons.1 h with rfl | h
      · exact List.mem_cons_self
      · exact List.mem_cons_of_mem _ (rmv_sub h)
theorem bagTwo_sub : ∀ {ss left : List Tm}, (∀ a ∈ (bagTwo left ss).1, a ∈ left) ∧ ∀ b ∈ (bagTwo left ss).2, b ∈ ss
  | [], left => by unfold bagTwo; exact ⟨fun a h => h, fun b h => h⟩
  | b :: ss, left => by
    unfold bagTwo
    split
    · obtain ⟨h1, h2⟩ := bagTwo_sub (ss := ss) (left := rmv b left)
      exact ⟨fun a h => rmv_sub (h1 a h), fun c h => List.mem_cons_of_mem _ (h2 c h)⟩
    · obtain ⟨h1, h2⟩ := bagTwo_sub (ss := ss) (left := left)
      exact ⟨h1, fun c h => by
        rcases List.mem_cons.1 h with rfl | h
        · exact List.mem_cons_self
        · exact List.mem_cons_of_mem _ (h2 c h)⟩
theorem bagG_congr {W W' : Tm → Tm → Nat} {ts ss : List Tm} (h : ∀ a ∈ ts, ∀ b ∈ ss, W a b = W' a b) : bagG W ts ss = bagG W' ts ss := by
  obtain ⟨h1, h2⟩ := bagTwo_sub (ss := ss) (left := ts)
  unfold bagG allG
  have e : ((bagTwo ts ss).2.all fun b => anyG W (bagTwo ts ss).1 b) = (bagTwo ts ss).2.all fun b => anyG W' (bagTwo ts ss).1 b :=
    all_congr fun b hb => any_congr fun a ha => by rw [h a (h1 a ha) b (h2 b hb)]
  rw [e]
theorem overG_congr {W W' : Tm → Tm → Nat} {t : Tm} {ss : List Tm} (h : ∀ b ∈ ss, W t b = W' t b) : overG W t ss = overG W' t ss :=
  all_congr fun b hb => by rw [h b hb]
theorem argG_congr {W W' : Tm → Tm → Nat} {s : Tm} {ts : List Tm} (h : ∀ a ∈ ts, W a s = W' a s) : argG W ts s = argG W' ts s :=
  any_congr fun a ha => by rw [h a ha]
theorem lpoB_congr {rk : Int → Int} {lex : Bool} {W W' : Tm → Tm → Nat} {t s : Tm} (h : ∀ a b, a.sz + b.sz < t.sz + s.sz → W a b = W' a b) : lpoB rk lex W t s = lpoB rk lex W' t s := by
  have h1 : argG W t.as s = argG W' t.as s := argG_congr fun a ha => h a s (by have := sz_arg ha; omega)
  have h2 : overG W t s.as = overG W' t s.as := overG_congr fun b hb => h t b (by have := sz_arg hb; omega)
  have h3 : lexG W t.as s.as = lexG W' t.as s.as := lexG_congr fun a ha b hb => h a b (by have := sz_arg ha; have := sz_arg hb; omega)
  have h4 : bagG W t.as s.as = bagG W' t.as s.as := bagG_congr fun a ha b hb => h a b (by have := sz_arg ha; have := sz_arg hb; omega)
  unfold lpoB
  rw [h1, h2, h3, h4]
theorem lpoN_eq {rk : Int → Int} {lex : Bool} : ∀ {n m : Nat} {t s : Tm}, t.sz + s.sz ≤ n → t.sz + s.sz ≤ m → lpoN rk lex n t s = lpoN rk lex m t s
  | 0, _, t, s, h, _ => by have := flat_pos t; unfold Tm.sz at h; omega
  | _ + 1, 0, t, s, _, h => by have := flat_pos t; unfold Tm.sz at h; omega
  | n + 1, m + 1, t, s, h1, h2 => by
    show lpoB rk lex (lpoN rk lex n) t s = lpoB rk lex (lpoN rk lex m) t s
    exact lpoB_congr fun a b hab => lpoN_eq (by omega) (by omega)
/-- Which condition by which t is greater than s holds first; 0: none. -/
noncomputable def lpoW (rk : Int → Int) (lex : Bool) (t s : Tm) : Nat := lpoN rk lex (t.sz + s.sz) t s
theorem lpoW_eq (rk : Int → Int) (lex : Bool) (t s : Tm) : lpoW rk lex t s = lpoB rk lex (lpoW rk lex) t s := by
  have h : lpoW rk lex t s = lpoN rk lex (t.sz + s.sz + 1) t s := lpoN_eq (Nat.le_refl _) (by omega)
  rw [h]
  show lpoB rk lex (lpoN rk lex (t.sz + s.sz)) t s = _
  exact lpoB_congr fun a b hab => lpoN_eq (by omega) (Nat.le_refl _)
theorem lpoB_le {rk : Int → Int} {lex : Bool} {W : Tm → Tm → Nat} {t s : Tm} : lpoB rk lex W t s ≤ 3 := by
  unfold lpoB
  repeat' split
  all_goals omega
theorem lpoW_le (rk : Int → Int) (lex : Bool) (t s : Tm) : lpoW rk lex t s ≤ 3 := by rw [lpoW_eq]; exact lpoB_le
theorem subT_eq {ar t rest : List Int} {p : Nat} {u : Tm} (h : TermP ar t) (hu : u.Ok ar) (hd : t.drop p = u.flat ++ rest) : subT ar t p = u := by
  have hp : p < t.length := by
    have h1 := congrArg List.length hd
    have h2 := flat_pos u
    rw [List.length_drop, List.length_append] at h1
    omega
  obtain ⟨h1, rest', h2⟩ := subT_ok h hp
  exact (flat_inj _ _ h1 hu _ _ (by rw [← h2, hd])).1

end Go.Proofs.Ytleahogikppepaa
