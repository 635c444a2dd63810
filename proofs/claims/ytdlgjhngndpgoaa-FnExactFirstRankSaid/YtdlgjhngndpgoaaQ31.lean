/- Several texts in one: CoN, CoO, Region. -/
import Derived.Test.YtdlgjhngndpgoaaQ23
import Derived.Test.YtdlgjhngndpgoaaQ30
import Derived.Test.YtdlgjhngndpgoaaQ10
import Derived.Orders
import Derived.RegionTactic
namespace Go.Proofs.Ytdlgjhngndpgoaa
open Go.Conc Go.ChangeShapes Go.WideShapes Go.ChangeAt Go.RowKit
set_option linter.unusedVariables false
set_option linter.unusedSimpArgs false
set_option maxRecDepth 100000
noncomputable def bodyW : Code := Try.f4.body.getD .skip
noncomputable def lw0 : Code := match bodyW with | .seq r _ => r | _ => .skip
noncomputable def lw1 : Code := match bodyW with | .seq _ (.seq r _) => r | _ => .skip
noncomputable def lw2 : Code := match bodyW with | .seq _ (.seq _ (.seq r _)) => r | _ => .skip
noncomputable def lw3 : Code := match bodyW with | .seq _ (.seq _ (.seq _ (.seq r _))) => r | _ => .skip
noncomputable def lw4 : Code := match bodyW with | .seq _ (.seq _ (.seq _ (.seq _ (.seq r _)))) => r | _ => .skip
noncomputable def lw5 : Code := match bodyW with | .seq _ (.seq _ (.seq _ (.seq _ (.seq _ (.seq r _))))) => r | _ => .skip
noncomputable def lw6 : Code := match bodyW with | .seq _ (.seq _ (.seq _ (.seq _ (.seq _ (.seq _ (.seq r _)))))) => r | _ => .skip
noncomputable def lw7 : Code := match bodyW with | .seq _ (.seq _ (.seq _ (.seq _ (.seq _ (.seq _ (.seq _ (.seq r _))))))) => r | _ => .skip
noncomputable def lw8 : Code := match bodyW with | .seq _ (.seq _ (.seq _ (.seq _ (.seq _ (.seq _ (.seq _ (.seq _ (.seq r _)))))))) => r | _ => .skip
noncomputable def lw9 : Code := match bodyW with | .seq _ (.seq _ (.seq _ (.seq _ (.seq _ (.seq _ (.seq _ (.seq _ (.seq _ (.seq r _))))))))) => r | _ => .skip
noncomputable def lw10 : Code := match bodyW with | .seq _ (.seq _ (.seq _ (.seq _ (.seq _ (.seq _ (.seq _ (.seq _ (.seq _ (.seq _ (.seq r _)))))))))) => r | _ => .skip
noncomputable def lw11 : Code := match bodyW with | .seq _ (.seq _ (.seq _ (.seq _ (.seq _ (.seq _ (.seq _ (.seq _ (.seq _ (.seq _ (.seq _ (.seq r _))))))))))) => r | _ => .skip
noncomputable def lw12 : Code := match bodyW with | .seq _ (.seq _ (.seq _ (.seq _ (.seq _ (.seq _ (.seq _ (.seq _ (.seq _ (.seq _ (.seq _ (.seq _ (.seq r _)))))))))))) => r | _ => .skip
noncomputable def lw13 : Code := match bodyW with | .seq _ (.seq _ (.seq _ (.seq _ (.seq _ (.seq _ (.seq _ (.seq _ (.seq _ (.seq _ (.seq _ (.seq _ (.seq _ (.seq r _))))))))))))) => r | _ => .skip
noncomputable def lw14 : Code := match bodyW with | .seq _ (.seq _ (.seq _ (.seq _ (.seq _ (.seq _ (.seq _ (.seq _ (.seq _ (.seq _ (.seq _ (.seq _ (.seq _ (.seq _ (.seq r _)))))))))))))) => r | _ => .skip
noncomputable def lw15 : Code := match bodyW with | .seq _ (.seq _ (.seq _ (.seq _ (.seq _ (.seq _ (.seq _ (.seq _ (.seq _ (.seq _ (.seq _ (.seq _ (.seq _ (.seq _ (.seq _ (.seq r _))))))))))))))) => r | _ => .skip
noncomputable def lw16 : Code := match bodyW with | .seq _ (.seq _ (.seq _ (.seq _ (.seq _ (.seq _ (.seq _ (.seq _ (.seq _ (.seq _ (.seq _ (.seq _ (.seq _ (.seq _ (.seq _ (.seq _ (.seq r _)))))))))))))))) => r | _ => .skip
noncomputable def lw17 : Code := match bodyW with | .seq _ (.seq _ (.seq _ (.seq _ (.seq _ (.seq _ (.seq _ (.seq _ (.seq _ (.seq _ (.seq _ (.seq _ (.seq _ (.seq _ (.seq _ (.seq _ (.seq _ (.seq r _))))))))))))))))) => r | _ => .skip
noncomputable def lw18 : Code := match bodyW with | .seq _ (.seq _ (.seq _ (.seq _ (.seq _ (.seq _ (.seq _ (.seq _ (.seq _ (.seq _ (.seq _ (.seq _ (.seq _ (.seq _ (.seq _ (.seq _ (.seq _ (.seq _ (.seq r _)))))))))))))))))) => r | _ => .skip
noncomputable def lwC : Code := match bodyW with | .seq _ (.seq _ (.seq _ (.seq _ (.seq _ (.seq _ (.seq _ (.seq _ (.seq _ (.seq _ (.seq _ (.seq _ (.seq _ (.seq _ (.seq _ (.seq _ (.seq _ (.seq _ (.seq _ r)))))))))))))))))) => r | _ => .skip
theorem bodyW_eq : bodyW = .seq lw0 (.seq lw1 (.seq lw2 (.seq lw3 (.seq lw4 (.seq lw5 (.seq lw6 (.seq lw7 (.seq lw8 (.seq lw9 (.seq lw10 (.seq lw11 (.seq lw12 (.seq lw13 (.seq lw14 (.seq lw15 (.seq lw16 (.seq lw17 (.seq lw18 lwC)))))))))))))))))) := by simp only [lwC, lw0, lw1, lw2, lw3, lw4, lw5, lw6, lw7, lw8, lw9, lw10, lw11, lw12, lw13, lw14, lw15, lw16, lw17, lw18, bodyW, Try.f4, Option.getD_some]
set_option maxHeartbeats 1000000 in
theorem lit96 {T : Array Value} (h : T.size = 96) : ∃ x0 x1 x2 x3 x4 x5 x6 x7 x8 x9 x10 x11 x12 x13 x14 x15 x16 x17 x18 x19 x20 x21 x22 x23 x24 x25 x26 x27 x28 x29 x30 x31 x32 x33 x34 x35 x36 x37 x38 x39 x40 x41 x42 x43 x44 x45 x46 x47 x48 x49 x50 x51 x52 x53 x54 x55 x56 x57 x58 x59 x60 x61 x62 x63 x64 x65 x66 x67 x68 x69 x70 x71 x72 x73 x74 x75 x76 x77 x78 x79 x80 x81 x82 x83 x84 x85 x86 x87 x88 x89 x90 x91 x92 x93 x94 x95 : Value, T = #[x0, x1, x2, x3, x4, x5, x6, x7, x8, x9, x10, x11, x12, x13, x14, x15, x16, x17, x18, x19, x20, x21, x22, x23, x24, x25, x26, x27, x28, x29, x30, x31, x32, x33, x34, x35, x36, x37, x38, x39, x40, x41, x42, x43, x44, x45, x46, x47, x48, x49, x50, x51, x52, x53, x54, x55, x56, x57, x58, x59, x60, x61, x62, x63, x64, x65, x66, x67, x68, x69, x70, x71, x72, x73, x74, x75, x76, x77, x78, x79, x80, x81, x82, x83, x84, x85, x86, x87, x88, x89, x90, x91, x92, x93, x94, x95] := by
  obtain ⟨l⟩ := T
  rcases l with _ | ⟨x0, l⟩
  · simp at h
  rcases l with _ | ⟨x1, l⟩
  · simp at h
  rcases l with _ | ⟨x2, l⟩
  · simp at h
  rcases l with _ | ⟨x3, l⟩
  · simp at h
  rcases l with _ | ⟨x4, l⟩
  · simp at h
  rcases l with _ | ⟨x5, l⟩
  · simp at h
  rcases l with _ | ⟨x6, l⟩
  · simp at h
  rcases l with _ | ⟨x7, l⟩
  · simp at h
  rcases l with _ | ⟨x8, l⟩
  · simp at h
  rcases l with _ | ⟨x9, l⟩
  · simp at h
  rcases l with _ | ⟨x10, l⟩
  · simp at h
  rcases l with _ | ⟨x11, l⟩
  · simp at h
  rcases l with _ | ⟨x12, l⟩
  · simp at h
  rcases l with _ | ⟨x13, l⟩
  · simp at h
  rcases l with _ | ⟨x14, l⟩
  · simp at h
  rcases l with _ | ⟨x15, l⟩
  · simp at h
  rcases l with _ | ⟨x16, l⟩
  · simp at h
  rcases l with _ | ⟨x17, l⟩
  · simp at h
  rcases l with _ | ⟨x18, l⟩
  · simp at h
  rcases l with _ | ⟨x19, l⟩
  · simp at h
  rcases l with _ | ⟨x20, l⟩
  · simp at h
  rcases l with _ | ⟨x21, l⟩
  · simp at h
  rcases l with _ | ⟨x22, l⟩
  · simp at h
  rcases l with _ | ⟨x23, l⟩
  · simp at h
  rcases l with _ | ⟨x24, l⟩
  · simp at h
  rcases l with _ | ⟨x25, l⟩
  · simp at h
  rcases l with _ | ⟨x26, l⟩
  · simp at h
  rcases l with _ | ⟨x27, l⟩
  · simp at h
  rcases l with _ | ⟨x28, l⟩
  · simp at h
  rcases l with _ | ⟨x29, l⟩
  · simp at h
  rcases l with _ | ⟨x30, l⟩
  · simp at h
  rcases l with _ | ⟨x31, l⟩
  · simp at h
  rcases l with _ | ⟨x32, l⟩
  · simp at h
  rcases l with _ | ⟨x33, l⟩
  · simp at h
  rcases l with _ | ⟨x34, l⟩
  · simp at h
  rcases l with _ | ⟨x35, l⟩
  · simp at h
  rcases l with _ | ⟨x36, l⟩
  · simp at h
  rcases l with _ | ⟨x37, l⟩
  · simp at h
  rcases l with _ | ⟨x38, l⟩
  · simp at h
  rcases l with _ | ⟨x39, l⟩
  · simp at h
  rcases l with _ | ⟨x40, l⟩
  · simp at h
  rcases l with _ | ⟨x41, l⟩
  · simp at h
  rcases l with _ | ⟨x42, l⟩
  · simp at h
  rcases l with _ | ⟨x43, l⟩
  · simp at h
  rcases l with _ | ⟨x44, l⟩
  · simp at h
  rcases l with _ | ⟨x45, l⟩
  · simp at h
  rcases l with _ | ⟨x46, l⟩
  · simp at h
  rcases l with _ | ⟨x47, l⟩
  · simp at h
  rcases l with _ | ⟨x48, l⟩
  · simp at h
  rcases l with _ | ⟨x49, l⟩
  · simp at h
  rcases l with _ | ⟨x50, l⟩
  · simp at h
  rcases l with _ | ⟨x51, l⟩
  · simp at h
  rcases l with _ | ⟨x52, l⟩
  · simp at h
  rcases l with _ | ⟨x53, l⟩
  · simp at h
  rcases l with _ | ⟨x54, l⟩
  · simp at h
  rcases l with _ | ⟨x55, l⟩
  · simp at h
  rcases l with _ | ⟨x56, l⟩
  · simp at h
  rcases l with _ | ⟨x57, l⟩
  · simp at h
  rcases l with _ | ⟨x58, l⟩
  · simp at h
  rcases l with _ | ⟨x59, l⟩
  · simp at h
  rcases l with _ | ⟨x60, l⟩
  · simp at h
  rcases l with _ | ⟨x61, l⟩
  · simp at h
  rcases l with _ | ⟨x62, l⟩
  · simp at h
  rcases l with _ | ⟨x63, l⟩
  · simp at h
  rcases l with _ | ⟨x64, l⟩
  · simp at h
  rcases l with _ | ⟨x65, l⟩
  · simp at h
  rcases l with _ | ⟨x66, l⟩
  · simp at h
  rcases l with _ | ⟨x67, l⟩
  · simp at h
  rcases l with _ | ⟨x68, l⟩
  · simp at h
  rcases l with _ | ⟨x69, l⟩
  · simp at h
  rcases l with _ | ⟨x70, l⟩
  · simp at h
  rcases l with _ | ⟨x71, l⟩
  · simp at h
  rcases l with _ | ⟨x72, l⟩
  · simp at h
  rcases l with _ | ⟨x73, l⟩
  · simp at h
  rcases l with _ | ⟨x74, l⟩
  · simp at h
  rcases l with _ | ⟨x75, l⟩
  · simp at h
  rcases l with _ | ⟨x76, l⟩
  · simp at h
  rcases l with _ | ⟨x77, l⟩
  · simp at h
  rcases l with _ | ⟨x78, l⟩
  · simp at h
  rcases l with _ | ⟨x79, l⟩
  · simp at h
  rcases l with _ | ⟨x80, l⟩
  · simp at h
  rcases l with _ | ⟨x81, l⟩
  · simp at h
  rcases l with _ | ⟨x82, l⟩
  · simp at h
  rcases l with _ | ⟨x83, l⟩
  · simp at h
  rcases l with _ | ⟨x84, l⟩
  · simp at h
  rcases l with _ | ⟨x85, l⟩
  · simp at h
  rcases l with _ | ⟨x86, l⟩
  · simp at h
  rcases l with _ | ⟨x87, l⟩
  · simp at h
  rcases l with _ | ⟨x88, l⟩
  · simp at h
  rcases l with _ | ⟨x89, l⟩
  · simp at h
  rcases l with _ | ⟨x90, l⟩
  · simp at h
  rcases l with _ | ⟨x91, l⟩
  · simp at h
  rcases l with _ | ⟨x92, l⟩
  · simp at h
  rcases l with _ | ⟨x93, l⟩
  · simp at h
  rcases l with _ | ⟨x94, l⟩
  · simp at h
  rcases l with _ | ⟨x95, l⟩
  · simp at h
  rcases l with _ | ⟨x, l⟩
  · exact ⟨x0, x1, x2, x3, x4, x5, x6, x7, x8, x9, x10, x11, x12, x13, x14, x15, x16, x17, x18, x19, x20, x21, x22, x23, x24, x25, x26, x27, x28, x29, x30, x31, x32, x33, x34, x35, x36, x37, x38, x39, x40, x41, x42, x43, x44, x45, x46, x47, x48, x49, x50, x51, x52, x53, x54, x55, x56, x57, x58, x59, x60, x61, x62, x63, x64, x65, x66, x67, x68, x69, x70, x71, x72, x73, x74, x75, x76, x77, x78, x79, x80, x81, x82, x83, x84, x85, x86, x87, x88, x89, x90, x91, x92, x93, x94, x95, rfl⟩
  · simp at h
def litW (x0 : Value) : Act := { tmps := #[x0, undef, undef, undef, undef, undef, undef, undef, undef, undef, undef, undef, undef, undef, undef, undef, undef, undef, undef, undef, undef, undef, undef, undef, undef, undef, undef, undef, undef, undef, undef, undef, undef, undef, undef, undef, undef, undef, undef, undef, undef, undef, undef, undef, undef, undef, undef, undef, undef, undef, undef, undef, undef, undef, undef, undef, undef, undef, undef, undef, undef, undef, undef, undef, undef, undef, undef, undef, undef, undef, undef, undef, undef, undef, undef, undef, undef, undef, undef, undef, undef, undef, undef, undef, undef, undef, undef, undef, undef, undef, undef, undef, undef, undef, undef, undef], defers := [] }
theorem wpS_cons {P : Program} {c : Code} {cs : List Code} {Q : Exit → Act → World → Prop} {a : Act} {w : World} (h : c.wp P (Exit.then (wpS P cs Q) Q) a w) : wpS P (c :: cs) Q a w := h
theorem wpS_nil {P : Program} {Q : Exit → Act → World → Prop} {a : Act} {w : World} (h : Q .normal a w) : wpS P [] Q a w := h
def La (v0 : World) (x0 : Sy) (PA0 : Option Addr) (pn0 pc0 : Nat) (PB0 : Option Addr) (pm0 pd0 : Nat) (a : Act) (v : World) : Prop :=
  a.tmps.size = 96 ∧ Hx v0 v ∧ ∃ q1 A4 n4 c4 q6 A5 n5 c5 B5 m5 lo hi, a.tmps[1]? = some (.pointer (some ⟨q1, 0, none⟩)) ∧ v.cell? ⟨q1, 0, none⟩ = some (.slice PA0 pn0 pc0) ∧ v.cell? ⟨q1, 1, none⟩ = some (.slice PB0 pm0 pd0) ∧
    a.tmps[4]? = some (.slice A4 n4 c4) ∧ a.tmps[5]? = some (.bool (ansF true x0).isSome) ∧ RI v A4 n4 ((ansF true x0).getD []) ∧
    a.tmps[6]? = some (.pointer (some ⟨q6, 0, none⟩)) ∧ v.cell? ⟨q6, 0, none⟩ = some (.slice A5 n5 c5) ∧ v.cell? ⟨q6, 1, none⟩ = some (.slice B5 m5 m5) ∧
    RI v A5 n5 x0.ar ∧ RR true v B5 m5 x0.rs ∧ FreeI v lo hi A5 n5 ∧ FreeR v lo hi B5 m5 ∧ (∀ b o s g o' s', A5 = some ⟨b, o, s⟩ → B5 = some ⟨g, o', s'⟩ → g ≠ b) ∧ (∀ b o s, A5 = some ⟨b, o, s⟩ → b < hi) ∧
    v0.heap.size ≤ q1 ∧ (q1 < lo ∧ lo ≤ hi) ∧ hi ≤ q6 ∧ q6 < v.heap.size ∧ (n4 = 0 ∨ ∀ b o s, A4 = some ⟨b, o, s⟩ → b < lo) ∧ RI v0 PA0 pn0 x0.ar ∧ RR false v0 PB0 pm0 x0.rs
set_option maxHeartbeats 4000000 in
theorem chunkA {v0 w : World} {x0 : Sy} {PA0 PB0 : Option Addr} {pn0 pc0 pm0 pd0 : Nat} (hH : Hx v0 w) (ha00 : RJ v0 PA0 pn0 x0.ar) (hb00 : RRJ v0 PB0 pm0 x0.rs) :
    wpS Try.prog [lw0, lw1, lw2, lw3, lw4, lw5] (fun e a' v' => (e = .normal ∧ La v0 x0 PA0 pn0 pc0 PB0 pm0 pd0 a' v') ∨ (e = .ret ∧ a'.tmps.size = 96 ∧ a'.tmps[2]? = some (.bool true) ∧ Hx v0 v')) (litW (.agg #[.slice PA0 pn0 pc0, .slice PB0 pm0 pd0])) w := by
  have ha0 : RJ w PA0 pn0 x0.ar := RJ.ext (w := { w with heap := v0.heap }) ha00 hH.to
  have hb0 : RRJ w PB0 pm0 x0.rs := RRJ.ext (w := { w with heap := v0.heap }) hb00 hH.to
  have HJ0 := Lib.hid ha0
  have HJ0b := Lib.hid hb0
  have HZ0 := Lib.hid (And.intro ha00 hb00)
  have HL0 := Lib.hid ha0.1
  have HL0b := Lib.hid hb0.1
  have HH := Lib.hid hH
  have HHz := Lib.hid hH.1
  clear ha0 hb0 hH ha00 hb00
  have b0 : -1 ≤ szSy (1048576) x0 ∧ szSy (1048576) x0 ≤ 1048576 := szSy_bd _ _ ⟨by decide, by decide⟩
  obtain ⟨oo, hoo⟩ : ∃ oo, oo = ansF true x0 := ⟨_, rfl⟩
  have HOO := Lib.hid hoo.symm
  have HLA := Lib.hid (fun a v' => (show La v0 x0 PA0 pn0 pc0 PB0 pm0 pd0 a v' = La v0 x0 PA0 pn0 pc0 PB0 pm0 pd0 a v' from rfl))
  clear hoo
  refine wpS_cons ?_
  simp only [lw0, bodyW, Try.f4, Option.getD_some, litW]
  go_wp2_with fail
  refine wpS_cons ?_
  simp only [lw1, bodyW, Try.f4, Option.getD_some]
  go_wp2_with fail
  refine wpS_cons ?_
  simp only [lw2, bodyW, Try.f4, Option.getD_some]
  go_wp2_with fail
  (with_reducible refine (c_szSystem (by (first | (first | (with_reducible exact RawI.mk (RJ.ext (Hid.out (by with_reducible assumption)) (by exact extX)))) | (with_reducible exact RawSy.mk (RJ.ext (Hid.out (by with_reducible assumption)) (by exact extX)) (RRJ.ext (Hid.out (by with_reducible assumption)) (by exact extX))) | (with_reducible exact RawSig.mk (RJ.ext (Hid.out (by with_reducible assumption)) (by exact extX))))) (by omega) (by omega)).mono ?_); rintro e w1 ⟨rfl, hE1⟩; have hz1 := sz_of hE1; (try simp only [World.size_alloc, World.size_setCell, World.size_drew] at hz1); obtain ⟨hc1, hf1⟩ := bcell hE1; (try have hq1_0 : w.heap.size < w1.heap.size := by omega); (try have hq1_1 : w.heap.size + 1 < w1.heap.size := by omega); (try have hq1_2 : w.heap.size + 1 + 1 < w1.heap.size := by omega); (try have hq1_3 : w.heap.size + 1 + 1 + 1 < w1.heap.size := by omega); (try have hq1_4 : w.heap.size + 1 + 1 + 1 + 1 < w1.heap.size := by omega); (try have hq1_5 : w.heap.size + 1 + 1 + 1 + 1 + 1 < w1.heap.size := by omega)
  go_wp2_with fail
  refine wpS_cons ?_
  simp only [lw3, bodyW, Try.f4, Option.getD_some]
  go_wp2_with fail
  · exact .inr ⟨trivial, rfl, rfl, HH.out.trans (Hx.ext (by exact extX))⟩
  have q0 : 0 ≤ szSy (1048576) x0 := by first | (with_reducible assumption) | omega
  have HZ1 := Lib.hid (And.intro (HZ0.out.1.ri (by have := szSy_ok (by omega) q0; have := HL0.out.1; omega)) (HZ0.out.2.rr (by have := (szSy_ok (by omega) q0).2.1; have := HL0b.out.1; omega) (fun r hr => by have := (szSy_ok (by omega) q0).2.2 r hr; omega)))
  have H0 := Lib.hid (HJ0.out.ri (by have := szSy_ok (by omega) q0; have := HL0.out.1; omega))
  have H0b := Lib.hid (HJ0b.out.rr (by have := (szSy_ok (by omega) q0).2.1; have := HL0b.out.1; omega) (fun r hr => by have := (szSy_ok (by omega) q0).2.2 r hr; omega))
  refine wpS_cons ?_
  simp only [lw4, bodyW, Try.f4, Option.getD_some]
  go_wp2_with fail
  (with_reducible refine (c_toSystem (by (first | (first | (with_reducible exact RdI.mk (RI.ext (Hid.out (by with_reducible assumption)) (by exact extX))) | (with_reducible exact RdI.ext (by with_reducible assumption) (by exact extX))) | (with_reducible exact RdSyK.mk (by (first | (with_reducible exact RI.ext (Hid.out (by with_reducible assumption)) (by exact extX)))) (RR.ext (Hid.out (by with_reducible assumption)) (by exact extX))) | (with_reducible exact RdSyK.ext (by with_reducible assumption) (by exact extX)) | (with_reducible exact RdSig.mk (by (first | (with_reducible exact RI.ext (Hid.out (by with_reducible assumption)) (by exact extX))))) | (with_reducible exact RdSig.ext (by with_reducible assumption) (by exact extX))))).mono ?_); rintro e w2 ⟨A2, n2, c2, B2, m2, rfl, hR2, hS2, hE2⟩; have HR2 := Lib.hid hR2; have HS2 := Lib.hid hS2; clear hR2 hS2; have hz2 := sz_of hE2; (try simp only [World.size_alloc, World.size_setCell, World.size_drew] at hz2); obtain ⟨hc2, hf2⟩ := bcell hE2; (try have hq2_0 : w.heap.size < w2.heap.size := by omega); (try have hq2_1 : w.heap.size + 1 < w2.heap.size := by omega); (try have hq2_2 : w.heap.size + 1 + 1 < w2.heap.size := by omega); (try have hq2_3 : w.heap.size + 1 + 1 + 1 < w2.heap.size := by omega); (try have hq2_4 : w.heap.size + 1 + 1 + 1 + 1 < w2.heap.size := by omega); (try have hq2_5 : w.heap.size + 1 + 1 + 1 + 1 + 1 < w2.heap.size := by omega); (try have hx2_1 : w1.heap.size < w2.heap.size := by omega)
  go_wp2_with fail
  (with_reducible refine (c_sFirstRank HOO.out (by (first | (first | (with_reducible exact RdI.mk (RI.ext (Hid.out (by with_reducible assumption)) (by exact extX))) | (with_reducible exact RdI.ext (by with_reducible assumption) (by exact extX))) | (with_reducible exact RdSyK.mk (by (first | (with_reducible exact RI.ext (Hid.out (by with_reducible assumption)) (by exact extX)))) (RR.ext (Hid.out (by with_reducible assumption)) (by exact extX))) | (with_reducible exact RdSyK.ext (by with_reducible assumption) (by exact extX)) | (with_reducible exact RdSig.mk (by (first | (with_reducible exact RI.ext (Hid.out (by with_reducible assumption)) (by exact extX))))) | (with_reducible exact RdSig.ext (by with_reducible assumption) (by exact extX))))).mono ?_)
  rintro e w4 ⟨A4, n4, c4, rfl, hR4, hE4⟩
  have HR4 := Lib.hid hR4
  clear hR4
  have hz4 := sz_of hE4; (try simp only [World.size_alloc, World.size_setCell, World.size_drew] at hz4); obtain ⟨hc4, hf4⟩ := bcell hE4; (try have hq4_0 : w.heap.size < w4.heap.size := by omega); (try have hq4_1 : w.heap.size + 1 < w4.heap.size := by omega); (try have hq4_2 : w.heap.size + 1 + 1 < w4.heap.size := by omega); (try have hq4_3 : w.heap.size + 1 + 1 + 1 < w4.heap.size := by omega); (try have hq4_4 : w.heap.size + 1 + 1 + 1 + 1 < w4.heap.size := by omega); (try have hq4_5 : w.heap.size + 1 + 1 + 1 + 1 + 1 < w4.heap.size := by omega); (try have hx4_1 : w1.heap.size < w4.heap.size := by omega); (try have hx4_2 : w2.heap.size < w4.heap.size := by omega); (try have hx4_3 : w3.heap.size < w4.heap.size := by omega)
  go_wp2_with fail
  refine wpS_cons ?_
  simp only [lw5, bodyW, Try.f4, Option.getD_some]
  go_wp2_with fail
  (with_reducible refine (c_toSystemO (by (first | (first | (with_reducible exact RdI.mk (RI.ext (Hid.out (by with_reducible assumption)) (by exact extX))) | (with_reducible exact RdI.ext (by with_reducible assumption) (by exact extX))) | (with_reducible exact RdSyK.mk (by (first | (with_reducible exact RI.ext (Hid.out (by with_reducible assumption)) (by exact extX)))) (RR.ext (Hid.out (by with_reducible assumption)) (by exact extX))) | (with_reducible exact RdSyK.ext (by with_reducible assumption) (by exact extX)) | (with_reducible exact RdSig.mk (by (first | (with_reducible exact RI.ext (Hid.out (by with_reducible assumption)) (by exact extX))))) | (with_reducible exact RdSig.ext (by with_reducible assumption) (by exact extX))))).mono ?_)
  rintro e w5 ⟨A5, n5, c5, B5, m5, rfl, hR5, hS5, hF5, hG5, hN5, hD5, hE5⟩
  have HR5 := Lib.hid hR5
  have HS5 := Lib.hid hS5
  have HF5 := Lib.hid hF5
  have HG5 := Lib.hid hG5
  have HN5 := Lib.hid hN5
  have HD5 := Lib.hid hD5
  clear hR5 hS5 hF5 hG5 hN5 hD5
  have hz5 := sz_of hE5; (try simp only [World.size_alloc, World.size_setCell, World.size_drew] at hz5); obtain ⟨hc5, hf5⟩ := bcell hE5; (try have hq5_0 : w.heap.size < w5.heap.size := by omega); (try have hq5_1 : w.heap.size + 1 < w5.heap.size := by omega); (try have hq5_2 : w.heap.size + 1 + 1 < w5.heap.size := by omega); (try have hq5_3 : w.heap.size + 1 + 1 + 1 < w5.heap.size := by omega); (try have hq5_4 : w.heap.size + 1 + 1 + 1 + 1 < w5.heap.size := by omega); (try have hq5_5 : w.heap.size + 1 + 1 + 1 + 1 + 1 < w5.heap.size := by omega); (try have hx5_1 : w1.heap.size < w5.heap.size := by omega); (try have hx5_2 : w2.heap.size < w5.heap.size := by omega); (try have hx5_3 : w3.heap.size < w5.heap.size := by omega); (try have hx5_4 : w4.heap.size < w5.heap.size := by omega)
  go_wp2_with fail
  refine wpS_nil ?_
  clear b0 HLA HL0 HL0b HJ0 HJ0b HZ0
  have hs1 : w.heap.size < w4.heap.size := by omega
  have hA4 : n4 = 0 ∨ ∀ b o s, A4 = some ⟨b, o, s⟩ → b < w4.heap.size := by
    rcases Nat.eq_zero_or_pos n4 with h | h
    · exact .inl h
    · refine .inr fun b o s e => ?_
      obtain ⟨b', o', e', hc⟩ := HR4.out.2 h
      rw [e] at e'; cases e'
      have hl := HR4.out.1.1
      exact World.block_lt_of_cell? w4 _ (hc 0 _ (List.getElem?_eq_getElem (by omega)))
  refine .inl ⟨rfl, rfl, HH.out.trans (Hx.ext (by exact extX)), w.heap.size, A4, n4, c4, w5.heap.size, A5, n5, c5, B5, m5, w4.heap.size, w5.heap.size, rfl, ?_, ?_, rfl, by rw [HOO.out]; rfl, by rw [HOO.out]; exact RI.ext HR4.out (by exact extX), rfl, by simp [go_sem], by simp [go_sem], RI.ext HR5.out (by exact extX), RR.ext HS5.out (by exact extX), ?_, FreeR.ext HG5.out (by exact extX), HN5.out, HD5.out, HHz.out, ⟨hs1, by omega⟩, Nat.le_refl _, by simp [go_sem], hA4, HZ1.out.1, HZ1.out.2⟩
  · exact Ext.keep (by exact extX : Ext (w.alloc (.cells #[.slice PA0 pn0 pc0, .slice PB0 pm0 pd0] 42)) _) (by simp [go_sem])
  · exact Ext.keep (by exact extX : Ext (w.alloc (.cells #[.slice PA0 pn0 pc0, .slice PB0 pm0 pd0] 42)) _) (by simp [go_sem])
  · exact HF5.out.same (Same.ext (by exact extX))
end Go.Proofs.Ytdlgjhngndpgoaa
namespace Go.Proofs.Ytdlgjhngndpgoaa
open Go.Conc Go.RowKit
set_option linter.unusedVariables false
set_option linter.unusedSimpArgs false
set_option maxRecDepth 100000
theorem FreeI.hx {w w' : World} {lo hi n : Nat} {A : Option Addr} (h : FreeI w lo hi A n) (k : Hx w w') : FreeI w' lo hi A n := FreeI.same (w := { w' with heap := w.heap }) h (Same.ext k.to)
theorem FreeR.hx {w w' : World} {lo hi n : Nat} {A : Option Addr} (h : FreeR w lo hi A n) (k : Hx w w') : FreeR w' lo hi A n := FreeR.ext (w := { w' with heap := w.heap }) h k.to
theorem RI.hx {w w' : World} {A : Option Addr} {n : Nat} {xs : List Int} (h : RI w A n xs) (k : Hx w w') : RI w' A n xs := RI.ext (w := { w' with heap := w.heap }) h k.to
theorem RR.hx {w w' : World} {b : Bool} {A : Option Addr} {n : Nat} {rs : List Ru} (h : RR b w A n rs) (k : Hx w w') : RR b w' A n rs := RR.ext (w := { w' with heap := w.heap }) h k.to
theorem Hx.keep {w w' : World} (k : Hx w w') {p : Addr} {x : Value} (h : w.cell? p = some x) : w'.cell? p = some x := Ext.keep k.to h
section
variable {v0 v v' : World} {x0 : Sy} {PA0 PB0 : Option Addr} {pn0 pc0 pm0 pd0 : Nat} {a : Act}
theorem La.hx (h : La v0 x0 PA0 pn0 pc0 PB0 pm0 pd0 a v) (k : Hx v v') : La v0 x0 PA0 pn0 pc0 PB0 pm0 pd0 a v' := by
  obtain ⟨h0, h1, q1, A4, n4, c4, q6, A5, n5, c5, B5, m5, lo, hi, k1, k2, k3, k4, k5, k6, k7, k8, k9, k10, k11, k12, k13, k14, k15, k16, k17, k18, k19, k20, k21, k22⟩ := h
  exact ⟨h0, h1.trans k, q1, A4, n4, c4, q6, A5, n5, c5, B5, m5, lo, hi, k1, k.keep k2, k.keep k3, k4, k5, k6.hx k, k7, k.keep k8, k.keep k9, k10.hx k, k11.hx k, k12.hx k, k13.hx k, k14, k15, k16, k17, k18, Nat.lt_of_lt_of_le k19 k.1, k20, k21, k22⟩
theorem La.put {t : Nat} {x : Value} (h : La v0 x0 PA0 pn0 pc0 PB0 pm0 pd0 a v) (h1 : t ≠ 1) (h4 : t ≠ 4) (h5 : t ≠ 5) (h6 : t ≠ 6) : La v0 x0 PA0 pn0 pc0 PB0 pm0 pd0 (a.put (some t) x) v := by
  obtain ⟨e0, e1, q1, A4, n4, c4, q6, A5, n5, c5, B5, m5, lo, hi, k1, k2, k3, k4, k5, k6, k7, k8⟩ := h
  exact ⟨by rw [put_size, e0], e1, q1, A4, n4, c4, q6, A5, n5, c5, B5, m5, lo, hi, by rw [put_get, if_neg h1, k1], k2, k3, by rw [put_get, if_neg h4, k4], by rw [put_get, if_neg h5, k5], k6, by rw [put_get, if_neg h6, k7], k8⟩
theorem La.ins : Ins (La v0 x0 PA0 pn0 pc0 PB0 pm0 pd0) := fun a v τ d h => h
def Own7 (x0 : Sy) (B : Nat) (x y : Value) (v : World) : Prop := ∃ A n c, x = .slice A n c ∧ y = .bool (ansF true x0).isSome ∧ OwI v B A n c ((ansF true x0).getD [])
theorem own7 {B : Nat} {x y : Value} (h : ResF B (ansF true x0) (.tuple #[x, y]) v) : Own7 x0 B x y v := by
  unfold Own7
  cases ho : ansF true x0 with
  | none =>
    rw [ho] at h
    have h : Value.tuple #[x, y] = .tuple #[.slice none 0 0, .bool false] := h
    injection h with h
    injection h with h
    injection h with h1 h2
    injection h2 with h2
    exact ⟨none, 0, 0, h1, h2, ⟨by omega, World.ownsRow_nil _ _ _ _⟩⟩
  | some us =>
    rw [ho] at h
    obtain ⟨b, n, cp, h, h2⟩ := h
    injection h with h
    injection h with h
    injection h with h1 h3
    injection h3 with h3
    exact ⟨_, n, cp, h1, h3, h2⟩
def Lb (v0 : World) (x0 : Sy) (PA0 : Option Addr) (pn0 pc0 : Nat) (PB0 : Option Addr) (pm0 pd0 : Nat) (a : Act) (v : World) : Prop :=
  La v0 x0 PA0 pn0 pc0 PB0 pm0 pd0 a v ∧ ∃ q6 B x y, a.tmps[6]? = some (.pointer (some ⟨q6, 0, none⟩)) ∧ q6 < B ∧ B ≤ v.heap.size ∧ a.tmps[7]? = some x ∧ a.tmps[8]? = some y ∧ Own7 x0 B x y v
end
theorem run_ld6 (a : Act) (w : World) (o : Oper) (q n c m d : Nat) (A B : Option Addr) (hop : o.op = .load 32 (.tmp 6)) (hx : a.eval (.tmp 6) = .pointer (some ⟨q, 0, none⟩)) (h : w.cell? ⟨q, 0, none⟩ = some (.slice A n c)) (h1 : w.cell? ⟨q, 1, none⟩ = some (.slice B m d)) : (execOp a.eval o).run Try.prog w = .ok (.value (.agg #[.slice A n c, .slice B m d])) w := by
  simp only [Act.eval, Array.getD_eq_getD_getElem?] at hx
  unfold execOp
  simp only [hop]
  simp [go_sem, hx, h, h1]
section
variable {m : Nat} {A : An} {Post : Value → World → Prop} {K : Nat} {StA : Set_ → Goroutine → World → Prop} {x0 : Sy} {PA0 PB0 : Option Addr} {pn0 pc0 pm0 pd0 : Nat} {k : List Item}
theorem bWe : (base 4).kind ≠ .early := by simp [base]
theorem bW : (base 4).kind = .normal := rfl
theorem law7 (hSo : Offs StA) (hoS : Offs (ScrS Try.prog Post K)) (hK : Script_ Try.prog Post K = Co Try.prog true StA) (hmono : ∀ O g w, StA O g w → ScrS Try.prog Post K O g w)
    (hn : Wk Try.prog (LM m) true StA A (base 4) [] k (Lb A.v x0 PA0 pn0 pc0 PB0 pm0 pd0)) : Wk Try.prog (LM m) true (ScrS Try.prog Post K) A (base 4) [] (.code lw6 :: k) (La A.v x0 PA0 pn0 pc0 PB0 pm0 pd0) := by
  simp only [lw6, bodyW, Try.f4, Option.getD_some]
  refine Wk.reg (l := [0, 1, 2, 3, 4, 5, 6]) rfl ?_
  refine Wk.op (X m) bWe rfl (d := some 28) rfl (xtmp (m := m) 6) La.ins (Ψ := fun a v => La A.v x0 PA0 pn0 pc0 PB0 pm0 pd0 a v ∧ ∃ A5 n5 c5 B5 m5, a.tmps[28]? = some (.agg #[.slice A5 n5 c5, .slice B5 m5 m5]) ∧ RI v A5 n5 x0.ar ∧ RR true v B5 m5 x0.rs) (fun a v h _ => ?_) ?_
  · have h' := h
    obtain ⟨h0, h1, q1, A4, n4, c4, q6, A5, n5, c5, B5, m5, lo, hi, k1, k2, k3, k4, k5, k6, k7, k8, k9, k10, k11, _⟩ := h
    exact ⟨by rfl, .inl ⟨_, _, run_ld6 a v _ q6 _ _ _ _ _ _ rfl (eval_tmp k7) k8 k9, h'.put (by decide) (by decide) (by decide) (by decide), A5, n5, c5, B5, m5, by rw [put_get, if_pos rfl, if_pos (by rw [h0]; decide)], k10, k11⟩⟩
  intro γ ag a v w O hp k2 k3 k4 k5 k6 k7
  obtain ⟨hLa, A5, n5, c5, B5, m5, h28, hri, hrr⟩ := hp
  refine co_into bWe rfl rfl rfl Try.func9 (by rfl) (c := bodyQ) rfl (fun x hx => by simp at hx; subst hx; exact trivial) k2 k3 k4 k5 k6 ?_
  refine (fr_wk (A := ⟨O, γ, v, w⟩) (s := x0) hSo hoS hK hmono ?_).mono fun a' v' h => ?_
  · intro γ2 x y v2 w2 O2 hout hxy hW2 hN2 hA2
    rw [Frame.finish_at]
    obtain ⟨y0, y1, rfl⟩ := hout.pair
    have hH := hout.1
    have hO7 := own7 (x0 := x0) hout.2
    have hz : ag.tmps.size = 96 := hLa.1
    have hLa2 := (hLa.hx hH)
    obtain ⟨_, _, q1, A4, n4, c4, q6, _, _, _, _, _, lo, hi, _, _, _, _, _, _, e6, _, _, _, _, _, _, _, _, _, _, _, hq6, _⟩ := hLa
    refine Wk.use (Φ := fun a v' => La A.v x0 PA0 pn0 pc0 PB0 pm0 pd0 a v' ∧ a.tmps[29]? = some (.tuple #[y0, y1]) ∧ (a.tmps[6]? = some (.pointer (some ⟨q6, 0, none⟩)) ∧ q6 < v.heap.size ∧ v.heap.size ≤ v'.heap.size ∧ Own7 x0 v.heap.size y0 y1 v')) (ag := ag.put (some 29) (.tuple #[y0, y1])) ⟨hLa2.put (by decide) (by decide) (by decide) (by decide), by rw [put_get, if_pos rfl, if_pos (by rw [hz]; decide)], by rw [put_get, if_neg (by decide), e6], hq6, hH.1, hO7⟩ (by rw [put_defers, k2]) (by rw [put_defers, k3]) ((k4.mono hA2.le).put _ hxy) hW2 hN2 (k7.trans hA2) ?_
    clear hLa2 hout hxy hO7 hH
    refine Wk.mv (X m) bWe rfl (.inl rfl) rfl (d := some 27) rfl (xtmp 29) (Ψ := fun a v' => La A.v x0 PA0 pn0 pc0 PB0 pm0 pd0 a v' ∧ a.tmps[27]? = some (.tuple #[y0, y1]) ∧ (a.tmps[6]? = some (.pointer (some ⟨q6, 0, none⟩)) ∧ q6 < v.heap.size ∧ v.heap.size ≤ v'.heap.size ∧ Own7 x0 v.heap.size y0 y1 v')) (fun a v h => ⟨h.1.put (by decide) (by decide) (by decide) (by decide), by rw [put_get, if_pos rfl, if_pos (by rw [h.1.1]; decide), eval_tmp h.2.1], by rw [put_get, if_neg (by decide), h.2.2.1], h.2.2.2⟩) ?_
    refine Wk.op (X m) bWe rfl (d := some 30) rfl (xtmp (m := m) 27) (fun a v τ d h => h) (Ψ := fun a v' => (La A.v x0 PA0 pn0 pc0 PB0 pm0 pd0 a v' ∧ a.tmps[27]? = some (.tuple #[y0, y1]) ∧ (a.tmps[6]? = some (.pointer (some ⟨q6, 0, none⟩)) ∧ q6 < v.heap.size ∧ v.heap.size ≤ v'.heap.size ∧ Own7 x0 v.heap.size y0 y1 v')) ∧ a.tmps[30]? = some y0) (fun a v h _ => ⟨by rfl, .inl ⟨_, _, run_ex7 a v _ y0 y1 0 27 rfl (eval_tmp h.2.1) (by decide), ⟨h.1.put (by decide) (by decide) (by decide) (by decide), by rw [put_get, if_neg (by decide), h.2.1], by rw [put_get, if_neg (by decide), h.2.2.1], h.2.2.2⟩, by rw [put_get, if_pos rfl, if_pos (by rw [h.1.1]; decide)]; rfl⟩⟩) ?_
    refine Wk.op (X m) bWe rfl (d := some 31) rfl (xtmp (m := m) 27) (fun a v τ d h => h) (Ψ := fun a v' => (La A.v x0 PA0 pn0 pc0 PB0 pm0 pd0 a v' ∧ (a.tmps[6]? = some (.pointer (some ⟨q6, 0, none⟩)) ∧ q6 < v.heap.size ∧ v.heap.size ≤ v'.heap.size ∧ Own7 x0 v.heap.size y0 y1 v')) ∧ a.tmps[30]? = some y0 ∧ a.tmps[31]? = some y1) (fun a v h _ => ⟨by rfl, .inl ⟨_, _, run_ex7 a v _ y0 y1 1 27 rfl (eval_tmp h.1.2.1) (by decide), ⟨h.1.1.put (by decide) (by decide) (by decide) (by decide), by rw [put_get, if_neg (by decide), h.1.2.2.1], h.1.2.2.2⟩, by rw [put_get, if_neg (by decide), h.2], by rw [put_get, if_pos rfl, if_pos (by rw [h.1.1.1]; decide)]; rfl⟩⟩) ?_
    refine Wk.mv (X m) bWe rfl (.inr rfl) rfl (d := some 7) rfl (xtmp 30) (Ψ := fun a v' => (La A.v x0 PA0 pn0 pc0 PB0 pm0 pd0 a v' ∧ (a.tmps[6]? = some (.pointer (some ⟨q6, 0, none⟩)) ∧ q6 < v.heap.size ∧ v.heap.size ≤ v'.heap.size ∧ Own7 x0 v.heap.size y0 y1 v')) ∧ a.tmps[7]? = some y0 ∧ a.tmps[31]? = some y1) (fun a v h => ⟨⟨h.1.1.put (by decide) (by decide) (by decide) (by decide), by rw [put_get, if_neg (by decide), h.1.2.1], h.1.2.2⟩, by rw [put_get, if_pos rfl, if_pos (by rw [h.1.1.1]; decide), eval_tmp h.2.1], by rw [put_get, if_neg (by decide), h.2.2]⟩) ?_
    refine Wk.mv (X m) bWe rfl (.inr rfl) rfl (d := some 8) rfl (xtmp 31) (Ψ := Lb A.v x0 PA0 pn0 pc0 PB0 pm0 pd0) (fun a v' h => ⟨h.1.1.put (by decide) (by decide) (by decide) (by decide), q6, v.heap.size, y0, y1, by rw [put_get, if_neg (by decide), h.1.2.1], h.1.2.2.1, h.1.2.2.2.1, by rw [put_get, if_neg (by decide), h.2.1], by rw [put_get, if_pos rfl, if_pos (by rw [h.1.1.1]; decide), eval_tmp h.2.2], h.1.2.2.2.2⟩) (Wk.regionEnd hn)
  · obtain ⟨rfl, rfl⟩ := h
    refine ⟨A5, n5, c5, B5, m5, m5, ?_, hri, hrr, Hx.refl _⟩
    have e : (#[Operand.tmp 28].map ag.eval) = #[.agg #[.slice A5 n5 c5, .slice B5 m5 m5]] := by simp [eval_tmp h28]
    show Act.mk (_ ++ _) [] = _
    rw [e]
    simp [litQ, Try.ntmps9]
end
end Go.Proofs.Ytdlgjhngndpgoaa
namespace Go.Proofs.Ytdlgjhngndpgoaa
open Go.RowKit
def AllFrom (p : Nat → Oper → Prop) : Nat → List Oper → Prop
  | _, [] => True
  | k, o :: l => p k o ∧ AllFrom p (k + 1) l
theorem AllFrom.get {p : Nat → Oper → Prop} : ∀ {l : List Oper} {k i : Nat} {o : Oper}, AllFrom p k l → l[i]? = some o → p (k + i) o
  | [], _, _, _, _, h => by simp at h
  | o :: l, k, 0, o', h, hi => by simp at hi; subst hi; simpa using h.1
  | o :: l, k, i + 1, o', h, hi => by
    have := AllFrom.get h.2 (by simpa using hi)
    rwa [Nat.add_assoc, Nat.add_comm 1 i] at this
def lexOk (l : List Oper) : Bool := l.zipIdx.all fun (o, i) => o.after.all fun e => !Region.binds .any e || decide (e.on < i)
section
variable {P : Program} {ops : Array Oper} {Q : Exit → Act → World → Prop}
def StepInv (P : Program) (ops : Array Oper) (Q : Exit → Act → World → Prop) (I : (Nat → Bool) → Act → World → Prop) (i : Nat) (o : Oper) : Prop :=
  ∀ (S : Nat → Bool) (a : Act) (w : World) (K : Act → World → Prop), (∀ e ∈ o.after, Region.binds .any e = true → S e.on = true) → I S a w → (∀ a w, I (fun j => j == i || S j) a w → K a w) → S i = false →
    if Region.wanted o (yielded ops a.tmps) = true then o.wp P a w K Q else K (a.put o.dst undef) w
theorem StepInv.plain {I : (Nat → Bool) → Act → World → Prop} {i : Nat} {o : Oper} (hg : o.guard = none)
    (h : ∀ (S : Nat → Bool) (a : Act) (w : World) (K : Act → World → Prop), (∀ e ∈ o.after, Region.binds .any e = true → S e.on = true) → I S a w → (∀ a w, I (fun j => j == i || S j) a w → K a w) → o.wp P a w K Q) : StepInv P ops Q I i o := by
  intro S a w K h1 h2 h3 _
  rw [if_pos (by simp [Region.wanted, hg])]
  exact h S a w K h1 h2 h3
theorem lex_ready {l : List Oper} (h : lexOk l = true) {i : Nat} {o : Oper} (ho : l[i]? = some o) : ∀ e ∈ o.after, Region.binds .any e = true → e.on < i := by
  intro e he hb
  unfold lexOk at h
  rw [List.all_eq_true] at h
  have hm : (o, i) ∈ l.zipIdx := by
    rw [List.mem_iff_getElem?]
    exact ⟨i, by simp [List.getElem?_zipIdx, ho]⟩
  have := h _ hm
  simp only [Array.all_eq_true_iff_forall_mem] at this
  have := this e he
  rw [hb] at this
  simpa using this
theorem wpAny_inv (hlex : lexOk ops.toList = true) (I : (Nat → Bool) → Act → World → Prop)
    (hs : AllFrom (StepInv P ops Q I) 0 ops.toList) (h1 : ∀ S a w, (∀ i, i < ops.size → S i = true) → I S a w → Q .normal a w) :
    ∀ (fuel : Nat) (listed : Array Bool) (a : Act) (w : World), listed.size = ops.size → ((List.range ops.size).filter fun i => !listed.getD i true).length ≤ fuel →
      I (fun i => listed.getD i true) a w → wpAny P .any ops Q fuel listed a w := by
  have hdone : ∀ (listed : Array Bool) (a : Act) (w : World), listed.size = ops.size → Region.ready .any ops listed = [] → I (fun i => listed.getD i true) a w → Q .normal a w := by
    intro listed a w hsz hr hI
    refine h1 _ a w ?_ hI
    intro i
    induction i using Nat.strongRecOn with
    | _ i ih =>
      intro hi
      rcases hb : listed.getD i true with _ | _
      · exfalso
        have ho : ops[i]? = some ops[i] := Array.getElem?_eq_getElem hi
        have hmem : i ∈ Region.ready .any ops listed := by
          unfold Region.ready
          rw [List.mem_filter]
          refine ⟨List.mem_range.2 hi, ?_⟩
          simp only [hb, Bool.not_false, Bool.true_and, ho, Option.map_some, Option.getD_some]
          rw [Array.all_eq_true_iff_forall_mem]
          intro e he
          rcases hbd : Region.binds .any e with _ | _
          · simp
          have hlt := lex_ready hlex (i := i) (o := ops[i]) (by simp [hi]) e he hbd
          have := ih e.on hlt (by omega)
          have h2 : listed.getD e.on false = true := by
            have hl : e.on < listed.size := by omega
            simp only [Array.getD, hl, dif_pos] at this ⊢
            exact this
          simp [h2]
        rw [hr] at hmem
        cases hmem
      · rfl
  intro fuel
  induction fuel with
  | zero =>
    intro listed a w hsz hc hI
    have hr : Region.ready .any ops listed = [] := by
      have h0 : ((List.range ops.size).filter fun i => !listed.getD i true) = [] := List.eq_nil_of_length_eq_zero (by omega)
      unfold Region.ready
      rw [List.filter_eq_nil_iff] at h0 ⊢
      intro i hi
      have := h0 i hi
      simp only [Bool.not_eq_true] at this
      rw [this]
      simp
    exact ⟨hr, hdone listed a w hsz hr hI⟩
  | succ fuel ih =>
    intro listed a w hsz hc hI
    refine ⟨fun hr => hdone listed a w hsz hr hI, fun i hi => ?_⟩
    unfold Region.ready at hi
    rw [List.mem_filter] at hi
    obtain ⟨hir, hi2⟩ := hi
    have hlt : i < ops.size := List.mem_range.1 hir
    have ho : ops[i]? = some ops[i] := Array.getElem?_eq_getElem hlt
    rw [ho] at hi2
    simp only [Option.map_some, Option.getD_some, Bool.and_eq_true] at hi2
    have hstep := AllFrom.get hs (i := i) (o := ops[i]) (by simp [hlt])
    rw [Nat.zero_add] at hstep
    refine wpOp_step ho fun K' hK' => ?_
    refine hstep _ a w K' ?_ hI ?_ (by simpa using hi2.1)
    · intro e he hb
      have := hi2.2
      rw [Array.all_eq_true_iff_forall_mem] at this
      have h3 := this e he
      rw [hb] at h3
      simp only [Bool.not_true, Bool.false_or] at h3
      have hl : e.on < listed.size := by
        rcases Nat.lt_or_ge e.on listed.size with h | h
        · exact h
        · simp [Array.getD, Nat.not_lt.2 h] at h3
      simp only [Array.getD, hl, dif_pos] at h3 ⊢
      exact h3
    · intro a' w' hI'
      refine hK' _ _ (ih _ a' w' (by simpa using hsz) ?_ ?_)
      · have hset : ((List.range ops.size).filter fun j => !(listed.setIfInBounds i true).getD j true) = ((List.range ops.size).filter fun j => !listed.getD j true).filter (fun j => !(j == i)) := by
          rw [List.filter_filter]
          congr 1
          funext j
          by_cases hji : j = i
          · subst hji
            have hl : j < listed.size := by omega
            simp [Array.getD, hl]
          · have : (listed.setIfInBounds i true).getD j true = listed.getD j true := by
              simp only [Array.getD, Array.size_setIfInBounds]
              split
              · rename_i hj; exact Array.getElem_setIfInBounds_ne hj (Ne.symm hji)
              · rfl
            rw [this]; simp [hji]
        rw [hset]
        have hin : i ∈ (List.range ops.size).filter fun j => !listed.getD j true := by
          rw [List.mem_filter]; exact ⟨hir, hi2.1⟩
        have := List.length_filter_lt_length_iff_exists (p := fun j => !(j == i)) (l := (List.range ops.size).filter fun j => !listed.getD j true)
        have h4 := this.2 ⟨i, hin, by simp⟩
        omega
      · have : (fun j => (listed.setIfInBounds i true).getD j true) = (fun j => j == i || listed.getD j true) := by
          funext j
          by_cases hji : j = i
          · subst hji
            have hl : j < listed.size := by omega
            simp [Array.getD, hl]
          · have : (listed.setIfInBounds i true).getD j true = listed.getD j true := by
              simp only [Array.getD, Array.size_setIfInBounds]
              split
              · rename_i hj; exact Array.getElem_setIfInBounds_ne hj (Ne.symm hji)
              · rfl
            rw [this]; simp [hji]
        rw [this]; exact hI'
theorem wp_region_inv {id : Nat} {l : List Oper} {a : Act} {w : World} (hm : P.follows .mixedOrders = true) (hlex : lexOk l = true) (I : Act → (Nat → Bool) → Act → World → Prop)
    (h0 : ∀ S, (∀ i, i < l.length → S i = false) → I a S a w.drew) (hs : AllFrom (StepInv P l.toArray Q (I a)) 0 l) (h1 : ∀ S a' w', (∀ i, i < l.length → S i = true) → I a S a' w' → Q .normal a' w') :
    (Code.region id l.toArray true).wp P Q a w := by
  refine wp_region_any hm (wpAny_inv (by simpa using hlex) (I a) (by simpa using hs) (by simpa using h1) _ _ a _ (by simp) ?_ (h0 _ ?_))
  · exact Nat.le_trans (List.length_filter_le _ _) (by simp)
  · intro i hi
    simp [Array.getD, hi]
end
end Go.Proofs.Ytdlgjhngndpgoaa
