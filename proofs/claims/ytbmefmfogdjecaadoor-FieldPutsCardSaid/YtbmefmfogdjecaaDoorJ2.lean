/- The document's put and Put; The document's put: numbers with a sign, bools, texts; any kind; its Put; field.Bare, Check; the document's Bare; law05.theirs; field.Bare of a text; What alive of law 5 asks: orders and takes of one byte; What alive of law 5 asks: field.take, Take of one byte; What alive of law 5 asks: field.Take of one byte that falls; alive of law 5; law05.same; a value's own part has the same bytes; Arguments of rows: fields and values; The law FieldPuts. -/
import Derived.Test.YtbmefmfogdjecaaDoorJ1
import Derived.Deep.RegionHeld3
import Derived.Deep.CutRange
import Derived.StillTailTactics
import Derived.Test.YtbmefmfogdjecaaDoorTie
import Derived.Test.YtbmefmfogdjecaaDoorCards
import Derived.ProofKit
import Derived.OpenShut
import Derived.ShutString
import Derived.ChangeOld
import Derived.Below
import Derived.SizedLaws
import Derived.Lay
import Derived.LaidMore
import Derived.SevenTiedAt
import Derived.Stop.Joined
import Derived.Shelf.Vars
import Derived.Lib.SmallJoins
set_option linter.unusedVariables false
set_option linter.unusedSimpArgs false
/- The document's put and Put. -/
namespace Go.Proofs.YtbmefmfogdjecaaDoor
open Go.RowKit
theorem below_cells {n : Nat} {w x : World} (h : Below n w x) (hn : n = w.heap.size) {p : Addr} {v : Value} (hc : w.cell? p = some v) : x.cell? p = some v := by
  subst hn
  exact (h.cell (p := p) (cell_lt hc)).trans hc
set_option maxRecDepth 100000 in
theorem d_width_1 (w : World) : Calls Tryd.prog 40 #[.int .i64 1] w (fun e w' => e = .returned (.int .i64 1) ∧ Below w.heap.size w w') := by
  go_enter Tryd.func40, Tryd.ntmps40
  go_wp2_with fail
  go_ret
  exact ⟨rfl, below_al _ _⟩

set_option maxRecDepth 100000 in
theorem d_width_2 (w : World) : Calls Tryd.prog 40 #[.int .i64 2] w (fun e w' => e = .returned (.int .i64 2) ∧ Below w.heap.size w w') := by
  go_enter Tryd.func40, Tryd.ntmps40
  go_wp2_with fail
  go_ret
  exact ⟨rfl, below_al _ _⟩

set_option maxRecDepth 100000 in
theorem d_width_3 (w : World) : Calls Tryd.prog 40 #[.int .i64 3] w (fun e w' => e = .returned (.int .i64 4) ∧ Below w.heap.size w w') := by
  go_enter Tryd.func40, Tryd.ntmps40
  go_wp2_with fail
  go_ret
  exact ⟨rfl, below_al _ _⟩

set_option maxRecDepth 100000 in
theorem d_width_4 (w : World) : Calls Tryd.prog 40 #[.int .i64 4] w (fun e w' => e = .returned (.int .i64 8) ∧ Below w.heap.size w w') := by
  go_enter Tryd.func40, Tryd.ntmps40
  go_wp2_with fail
  go_ret
  exact ⟨rfl, below_al _ _⟩

set_option maxRecDepth 100000 in
theorem d_width_5 (w : World) : Calls Tryd.prog 40 #[.int .i64 5] w (fun e w' => e = .returned (.int .i64 1) ∧ Below w.heap.size w w') := by
  go_enter Tryd.func40, Tryd.ntmps40
  go_wp2_with fail
  go_ret
  exact ⟨rfl, below_al _ _⟩

set_option maxRecDepth 100000 in
theorem d_width_6 (w : World) : Calls Tryd.prog 40 #[.int .i64 6] w (fun e w' => e = .returned (.int .i64 2) ∧ Below w.heap.size w w') := by
  go_enter Tryd.func40, Tryd.ntmps40
  go_wp2_with fail
  go_ret
  exact ⟨rfl, below_al _ _⟩

set_option maxRecDepth 100000 in
theorem d_width_7 (w : World) : Calls Tryd.prog 40 #[.int .i64 7] w (fun e w' => e = .returned (.int .i64 4) ∧ Below w.heap.size w w') := by
  go_enter Tryd.func40, Tryd.ntmps40
  go_wp2_with fail
  go_ret
  exact ⟨rfl, below_al _ _⟩

set_option maxRecDepth 100000 in
theorem d_width_8 (w : World) : Calls Tryd.prog 40 #[.int .i64 8] w (fun e w' => e = .returned (.int .i64 8) ∧ Below w.heap.size w w') := by
  go_enter Tryd.func40, Tryd.ntmps40
  go_wp2_with fail
  go_ret
  exact ⟨rfl, below_al _ _⟩
set_option maxHeartbeats 1000000 in
set_option maxRecDepth 100000 in
theorem d_put_1 (w : World) (u : Nat) (hu : u < 18446744073709551616) (i : Int) (a : Option Addr) (n c : Nat) (t : Bool) : Calls Tryd.prog 22 #[.int .i64 1, .agg #[.int .u64 (u : Nat), .int .i64 i, .slice a n c, .bool t]] w (put2 (upU 1 255 u).1 (upU 1 255 u).2 w) := by
  have hP : Hid (∀ x, Calls Tryd.prog 39 #[.int .i64 1, .int .u64 (u : Nat)] x (put2 (upU 1 255 u).1 (upU 1 255 u).2 x)) := fun x => by
    have := d_put x 1 u 255 (by omega) (by omega) hu (by omega) d_most_1
    unfold upU
    split <;> rename_i h <;> simp only [h, if_true, if_false] at this ⊢ <;> exact this
  generalize upU 1 255 u = R at *
  obtain ⟨R, r⟩ := R
  have hB := Lib.hid (below_al w (.cells #[.int .u64 (u : Nat), .int .i64 i, .slice a n c, .bool t] 27))
  go_enter Tryd.func22, Tryd.ntmps22
  go_wp2_with fail
  go_region_held3 (fun w' => w'.cell? ⟨w.heap.size, 0, none⟩ = some (.int .u64 (u : Nat))) (first | go_keep)
    (first
    | (have g0 := B1; go_at_call 39; refine (hP.out _).mono ?_; intro e w2 q; have z2 := q.cells (p := ⟨w.heap.size, 0, none⟩) (v := .int .u64 (u : Nat)) (by first | exact z1 | (simp; done) | exact (World.cell?_drew _ _).trans z1); obtain ⟨v, bo, rfl, q1, q2, q3⟩ := q.up (by first | exact B1.out | exact below_drewN B1.out _ | exact B1.out.drew); have Q1 := Lib.hid q1; have Q2 := Lib.hid q2; have Q3 := Lib.hid q3; clear q q1 q2 q3)
    | (go_at_call 40; refine (d_width_1 _).mono ?_; rintro e w1 ⟨rfl, q⟩; have z1 : w1.cell? ⟨w.heap.size, 0, none⟩ = some (.int .u64 (u : Nat)) := below_cells q rfl (by simp)
       have B1 : Hid (Below w.heap.size w w1) := (by first | exact hB.out.trans (q.mono hB.out.size) | exact hB.out.drew.trans (q.mono hB.out.drew.size)); clear q))
  (try simp only [Exit.then, Exit.inBlock])
  go_wp2_with fail
  go_ret2
  exact ⟨v, bo, rfl, Q1.out, Q2.out, Q3.out⟩

set_option maxHeartbeats 1000000 in
set_option maxRecDepth 100000 in
theorem d_put_2 (w : World) (u : Nat) (hu : u < 18446744073709551616) (i : Int) (a : Option Addr) (n c : Nat) (t : Bool) : Calls Tryd.prog 22 #[.int .i64 2, .agg #[.int .u64 (u : Nat), .int .i64 i, .slice a n c, .bool t]] w (put2 (upU 2 65535 u).1 (upU 2 65535 u).2 w) := by
  have hP : Hid (∀ x, Calls Tryd.prog 39 #[.int .i64 2, .int .u64 (u : Nat)] x (put2 (upU 2 65535 u).1 (upU 2 65535 u).2 x)) := fun x => by
    have := d_put x 2 u 65535 (by omega) (by omega) hu (by omega) d_most_2
    unfold upU
    split <;> rename_i h <;> simp only [h, if_true, if_false] at this ⊢ <;> exact this
  generalize upU 2 65535 u = R at *
  obtain ⟨R, r⟩ := R
  have hB := Lib.hid (below_al w (.cells #[.int .u64 (u : Nat), .int .i64 i, .slice a n c, .bool t] 27))
  go_enter Tryd.func22, Tryd.ntmps22
  go_wp2_with fail
  go_region_held3 (fun w' => w'.cell? ⟨w.heap.size, 0, none⟩ = some (.int .u64 (u : Nat))) (first | go_keep)
    (first
    | (have g0 := B1; go_at_call 39; refine (hP.out _).mono ?_; intro e w2 q; have z2 := q.cells (p := ⟨w.heap.size, 0, none⟩) (v := .int .u64 (u : Nat)) (by first | exact z1 | (simp; done) | exact (World.cell?_drew _ _).trans z1); obtain ⟨v, bo, rfl, q1, q2, q3⟩ := q.up (by first | exact B1.out | exact below_drewN B1.out _ | exact B1.out.drew); have Q1 := Lib.hid q1; have Q2 := Lib.hid q2; have Q3 := Lib.hid q3; clear q q1 q2 q3)
    | (go_at_call 40; refine (d_width_2 _).mono ?_; rintro e w1 ⟨rfl, q⟩; have z1 : w1.cell? ⟨w.heap.size, 0, none⟩ = some (.int .u64 (u : Nat)) := below_cells q rfl (by simp)
       have B1 : Hid (Below w.heap.size w w1) := (by first | exact hB.out.trans (q.mono hB.out.size) | exact hB.out.drew.trans (q.mono hB.out.drew.size)); clear q))
  (try simp only [Exit.then, Exit.inBlock])
  go_wp2_with fail
  go_ret2
  exact ⟨v, bo, rfl, Q1.out, Q2.out, Q3.out⟩

set_option maxHeartbeats 1000000 in
set_option maxRecDepth 100000 in
theorem d_put_3 (w : World) (u : Nat) (hu : u < 18446744073709551616) (i : Int) (a : Option Addr) (n c : Nat) (t : Bool) : Calls Tryd.prog 22 #[.int .i64 3, .agg #[.int .u64 (u : Nat), .int .i64 i, .slice a n c, .bool t]] w (put2 (upU 4 4294967295 u).1 (upU 4 4294967295 u).2 w) := by
  have hP : Hid (∀ x, Calls Tryd.prog 39 #[.int .i64 4, .int .u64 (u : Nat)] x (put2 (upU 4 4294967295 u).1 (upU 4 4294967295 u).2 x)) := fun x => by
    have := d_put x 4 u 4294967295 (by omega) (by omega) hu (by omega) d_most_4
    unfold upU
    split <;> rename_i h <;> simp only [h, if_true, if_false] at this ⊢ <;> exact this
  generalize upU 4 4294967295 u = R at *
  obtain ⟨R, r⟩ := R
  have hB := Lib.hid (below_al w (.cells #[.int .u64 (u : Nat), .int .i64 i, .slice a n c, .bool t] 27))
  go_enter Tryd.func22, Tryd.ntmps22
  go_wp2_with fail
  go_region_held3 (fun w' => w'.cell? ⟨w.heap.size, 0, none⟩ = some (.int .u64 (u : Nat))) (first | go_keep)
    (first
    | (have g0 := B1; go_at_call 39; refine (hP.out _).mono ?_; intro e w2 q; have z2 := q.cells (p := ⟨w.heap.size, 0, none⟩) (v := .int .u64 (u : Nat)) (by first | exact z1 | (simp; done) | exact (World.cell?_drew _ _).trans z1); obtain ⟨v, bo, rfl, q1, q2, q3⟩ := q.up (by first | exact B1.out | exact below_drewN B1.out _ | exact B1.out.drew); have Q1 := Lib.hid q1; have Q2 := Lib.hid q2; have Q3 := Lib.hid q3; clear q q1 q2 q3)
    | (go_at_call 40; refine (d_width_3 _).mono ?_; rintro e w1 ⟨rfl, q⟩; have z1 : w1.cell? ⟨w.heap.size, 0, none⟩ = some (.int .u64 (u : Nat)) := below_cells q rfl (by simp)
       have B1 : Hid (Below w.heap.size w w1) := (by first | exact hB.out.trans (q.mono hB.out.size) | exact hB.out.drew.trans (q.mono hB.out.drew.size)); clear q))
  (try simp only [Exit.then, Exit.inBlock])
  go_wp2_with fail
  go_ret2
  exact ⟨v, bo, rfl, Q1.out, Q2.out, Q3.out⟩

set_option maxHeartbeats 1000000 in
set_option maxRecDepth 100000 in
theorem d_put_4 (w : World) (u : Nat) (hu : u < 18446744073709551616) (i : Int) (a : Option Addr) (n c : Nat) (t : Bool) : Calls Tryd.prog 22 #[.int .i64 4, .agg #[.int .u64 (u : Nat), .int .i64 i, .slice a n c, .bool t]] w (put2 (upU 8 18446744073709551615 u).1 (upU 8 18446744073709551615 u).2 w) := by
  have hP : Hid (∀ x, Calls Tryd.prog 39 #[.int .i64 8, .int .u64 (u : Nat)] x (put2 (upU 8 18446744073709551615 u).1 (upU 8 18446744073709551615 u).2 x)) := fun x => by
    have := d_put x 8 u 18446744073709551615 (by omega) (by omega) hu (by omega) d_most_8
    unfold upU
    split <;> rename_i h <;> simp only [h, if_true, if_false] at this ⊢ <;> exact this
  generalize upU 8 18446744073709551615 u = R at *
  obtain ⟨R, r⟩ := R
  have hB := Lib.hid (below_al w (.cells #[.int .u64 (u : Nat), .int .i64 i, .slice a n c, .bool t] 27))
  go_enter Tryd.func22, Tryd.ntmps22
  go_wp2_with fail
  go_region_held3 (fun w' => w'.cell? ⟨w.heap.size, 0, none⟩ = some (.int .u64 (u : Nat))) (first | go_keep)
    (first
    | (have g0 := B1; go_at_call 39; refine (hP.out _).mono ?_; intro e w2 q; have z2 := q.cells (p := ⟨w.heap.size, 0, none⟩) (v := .int .u64 (u : Nat)) (by first | exact z1 | (simp; done) | exact (World.cell?_drew _ _).trans z1); obtain ⟨v, bo, rfl, q1, q2, q3⟩ := q.up (by first | exact B1.out | exact below_drewN B1.out _ | exact B1.out.drew); have Q1 := Lib.hid q1; have Q2 := Lib.hid q2; have Q3 := Lib.hid q3; clear q q1 q2 q3)
    | (go_at_call 40; refine (d_width_4 _).mono ?_; rintro e w1 ⟨rfl, q⟩; have z1 : w1.cell? ⟨w.heap.size, 0, none⟩ = some (.int .u64 (u : Nat)) := below_cells q rfl (by simp)
       have B1 : Hid (Below w.heap.size w w1) := (by first | exact hB.out.trans (q.mono hB.out.size) | exact hB.out.drew.trans (q.mono hB.out.drew.size)); clear q))
  (try simp only [Exit.then, Exit.inBlock])
  go_wp2_with fail
  go_ret2
  exact ⟨v, bo, rfl, Q1.out, Q2.out, Q3.out⟩
end Go.Proofs.YtbmefmfogdjecaaDoor
/- The document's put: numbers with a sign, bools, texts; any kind; its Put. -/
namespace Go.Proofs.YtbmefmfogdjecaaDoor
open Go.RowKit
set_option maxHeartbeats 1000000 in
set_option maxRecDepth 100000 in
theorem d_put_5 (w : World) (u : Nat) (i : Int) (hi1 : -9223372036854775808 ≤ i) (hi2 : i ≤ 9223372036854775807) (a : Option Addr) (n c : Nat) (t : Bool) : Calls Tryd.prog 22 #[.int .i64 5, .agg #[.int .u64 (u : Nat), .int .i64 i, .slice a n c, .bool t]] w (put2 (upBy 1 127 i).1 (upBy 1 127 i).2 w) := by
  have hP := Lib.hid (fun x => di_put_1 x i hi1 hi2)
  generalize upBy 1 127 i = R at *
  obtain ⟨R, r⟩ := R
  have hB := Lib.hid (below_al w (.cells #[.int .u64 (u : Nat), .int .i64 i, .slice a n c, .bool t] 27))
  go_enter Tryd.func22, Tryd.ntmps22
  go_wp2_with fail
  go_region_held3 (fun w' => w'.cell? ⟨w.heap.size, 1, none⟩ = some (.int .i64 i)) (first | go_keep)
    (first
    | (have g0 := B1; go_at_call 41; refine (hP.out _).mono ?_; intro e w2 q; have z2 := q.cells (p := ⟨w.heap.size, 1, none⟩) (v := .int .i64 i) (by first | exact z1 | (simp; done) | exact (World.cell?_drew _ _).trans z1); obtain ⟨v, bo, rfl, q1, q2, q3⟩ := q.up (by first | exact B1.out | exact below_drewN B1.out _ | exact B1.out.drew); have Q1 := Lib.hid q1; have Q2 := Lib.hid q2; have Q3 := Lib.hid q3; clear q q1 q2 q3)
    | (go_at_call 40; refine (d_width_5 _).mono ?_; rintro e w1 ⟨rfl, q⟩; have z1 : w1.cell? ⟨w.heap.size, 1, none⟩ = some (.int .i64 i) := below_cells q rfl (by simp)
       have B1 : Hid (Below w.heap.size w w1) := (by first | exact hB.out.trans (q.mono hB.out.size) | exact hB.out.drew.trans (q.mono hB.out.drew.size)); clear q))
  (try simp only [Exit.then, Exit.inBlock])
  go_wp2_with fail
  go_ret2
  exact ⟨v, bo, rfl, Q1.out, Q2.out, Q3.out⟩

set_option maxHeartbeats 1000000 in
set_option maxRecDepth 100000 in
theorem d_put_6 (w : World) (u : Nat) (i : Int) (hi1 : -9223372036854775808 ≤ i) (hi2 : i ≤ 9223372036854775807) (a : Option Addr) (n c : Nat) (t : Bool) : Calls Tryd.prog 22 #[.int .i64 6, .agg #[.int .u64 (u : Nat), .int .i64 i, .slice a n c, .bool t]] w (put2 (upBy 2 32767 i).1 (upBy 2 32767 i).2 w) := by
  have hP := Lib.hid (fun x => di_put_2 x i hi1 hi2)
  generalize upBy 2 32767 i = R at *
  obtain ⟨R, r⟩ := R
  have hB := Lib.hid (below_al w (.cells #[.int .u64 (u : Nat), .int .i64 i, .slice a n c, .bool t] 27))
  go_enter Tryd.func22, Tryd.ntmps22
  go_wp2_with fail
  go_region_held3 (fun w' => w'.cell? ⟨w.heap.size, 1, none⟩ = some (.int .i64 i)) (first | go_keep)
    (first
    | (have g0 := B1; go_at_call 41; refine (hP.out _).mono ?_; intro e w2 q; have z2 := q.cells (p := ⟨w.heap.size, 1, none⟩) (v := .int .i64 i) (by first | exact z1 | (simp; done) | exact (World.cell?_drew _ _).trans z1); obtain ⟨v, bo, rfl, q1, q2, q3⟩ := q.up (by first | exact B1.out | exact below_drewN B1.out _ | exact B1.out.drew); have Q1 := Lib.hid q1; have Q2 := Lib.hid q2; have Q3 := Lib.hid q3; clear q q1 q2 q3)
    | (go_at_call 40; refine (d_width_6 _).mono ?_; rintro e w1 ⟨rfl, q⟩; have z1 : w1.cell? ⟨w.heap.size, 1, none⟩ = some (.int .i64 i) := below_cells q rfl (by simp)
       have B1 : Hid (Below w.heap.size w w1) := (by first | exact hB.out.trans (q.mono hB.out.size) | exact hB.out.drew.trans (q.mono hB.out.drew.size)); clear q))
  (try simp only [Exit.then, Exit.inBlock])
  go_wp2_with fail
  go_ret2
  exact ⟨v, bo, rfl, Q1.out, Q2.out, Q3.out⟩

set_option maxHeartbeats 1000000 in
set_option maxRecDepth 100000 in
theorem d_put_7 (w : World) (u : Nat) (i : Int) (hi1 : -9223372036854775808 ≤ i) (hi2 : i ≤ 9223372036854775807) (a : Option Addr) (n c : Nat) (t : Bool) : Calls Tryd.prog 22 #[.int .i64 7, .agg #[.int .u64 (u : Nat), .int .i64 i, .slice a n c, .bool t]] w (put2 (upBy 4 2147483647 i).1 (upBy 4 2147483647 i).2 w) := by
  have hP := Lib.hid (fun x => di_put_4 x i hi1 hi2)
  generalize upBy 4 2147483647 i = R at *
  obtain ⟨R, r⟩ := R
  have hB := Lib.hid (below_al w (.cells #[.int .u64 (u : Nat), .int .i64 i, .slice a n c, .bool t] 27))
  go_enter Tryd.func22, Tryd.ntmps22
  go_wp2_with fail
  go_region_held3 (fun w' => w'.cell? ⟨w.heap.size, 1, none⟩ = some (.int .i64 i)) (first | go_keep)
    (first
    | (have g0 := B1; go_at_call 41; refine (hP.out _).mono ?_; intro e w2 q; have z2 := q.cells (p := ⟨w.heap.size, 1, none⟩) (v := .int .i64 i) (by first | exact z1 | (simp; done) | exact (World.cell?_drew _ _).trans z1); obtain ⟨v, bo, rfl, q1, q2, q3⟩ := q.up (by first | exact B1.out | exact below_drewN B1.out _ | exact B1.out.drew); have Q1 := Lib.hid q1; have Q2 := Lib.hid q2; have Q3 := Lib.hid q3; clear q q1 q2 q3)
    | (go_at_call 40; refine (d_width_7 _).mono ?_; rintro e w1 ⟨rfl, q⟩; have z1 : w1.cell? ⟨w.heap.size, 1, none⟩ = some (.int .i64 i) := below_cells q rfl (by simp)
       have B1 : Hid (Below w.heap.size w w1) := (by first | exact hB.out.trans (q.mono hB.out.size) | exact hB.out.drew.trans (q.mono hB.out.drew.size)); clear q))
  (try simp only [Exit.then, Exit.inBlock])
  go_wp2_with fail
  go_ret2
  exact ⟨v, bo, rfl, Q1.out, Q2.out, Q3.out⟩

set_option maxHeartbeats 1000000 in
set_option maxRecDepth 100000 in
theorem d_put_8 (w : World) (u : Nat) (i : Int) (hi1 : -9223372036854775808 ≤ i) (hi2 : i ≤ 9223372036854775807) (a : Option Addr) (n c : Nat) (t : Bool) : Calls Tryd.prog 22 #[.int .i64 8, .agg #[.int .u64 (u : Nat), .int .i64 i, .slice a n c, .bool t]] w (put2 (upBy 8 9223372036854775807 i).1 (upBy 8 9223372036854775807 i).2 w) := by
  have hP := Lib.hid (fun x => di_put_8 x i hi1 hi2)
  generalize upBy 8 9223372036854775807 i = R at *
  obtain ⟨R, r⟩ := R
  have hB := Lib.hid (below_al w (.cells #[.int .u64 (u : Nat), .int .i64 i, .slice a n c, .bool t] 27))
  go_enter Tryd.func22, Tryd.ntmps22
  go_wp2_with fail
  go_region_held3 (fun w' => w'.cell? ⟨w.heap.size, 1, none⟩ = some (.int .i64 i)) (first | go_keep)
    (first
    | (have g0 := B1; go_at_call 41; refine (hP.out _).mono ?_; intro e w2 q; have z2 := q.cells (p := ⟨w.heap.size, 1, none⟩) (v := .int .i64 i) (by first | exact z1 | (simp; done) | exact (World.cell?_drew _ _).trans z1); obtain ⟨v, bo, rfl, q1, q2, q3⟩ := q.up (by first | exact B1.out | exact below_drewN B1.out _ | exact B1.out.drew); have Q1 := Lib.hid q1; have Q2 := Lib.hid q2; have Q3 := Lib.hid q3; clear q q1 q2 q3)
    | (go_at_call 40; refine (d_width_8 _).mono ?_; rintro e w1 ⟨rfl, q⟩; have z1 : w1.cell? ⟨w.heap.size, 1, none⟩ = some (.int .i64 i) := below_cells q rfl (by simp)
       have B1 : Hid (Below w.heap.size w w1) := (by first | exact hB.out.trans (q.mono hB.out.size) | exact hB.out.drew.trans (q.mono hB.out.drew.size)); clear q))
  (try simp only [Exit.then, Exit.inBlock])
  go_wp2_with fail
  go_ret2
  exact ⟨v, bo, rfl, Q1.out, Q2.out, Q3.out⟩
set_option maxHeartbeats 1000000 in
set_option maxRecDepth 100000 in
theorem d_put_9true (w : World) (u : Nat) (i : Int) (a : Option Addr) (n c : Nat) : Calls Tryd.prog 22 #[.int .i64 9, .agg #[.int .u64 (u : Nat), .int .i64 i, .slice a n c, .bool true]] w (put2 [1] 0 w) := by
  obtain ⟨wb, hwb⟩ : ∃ wb, wb = w.alloc (.cells #[.int .u64 (u : Nat), .int .i64 i, .slice a n c, .bool true] 27) := ⟨_, rfl⟩
  have hB : Hid (Below w.heap.size w wb) := by rw [hwb]; exact below_al w _
  have z3 : wb.cell? ⟨w.heap.size, 3, none⟩ = some (.bool true) := by rw [hwb]; simp
  go_enter Tryd.func22, Tryd.ntmps22
  go_upto_region 1 with fail
  rw [← hwb]
  clear hwb
  go_wp2_with fail
  go_ret2
  exact ⟨_, some wb.heap.size, rfl, own_one wb 1, hB.out.alloc hB.out.size _, Or.inr ⟨_, rfl, hB.out.size⟩⟩

set_option maxHeartbeats 1000000 in
set_option maxRecDepth 100000 in
theorem d_put_9false (w : World) (u : Nat) (i : Int) (a : Option Addr) (n c : Nat) : Calls Tryd.prog 22 #[.int .i64 9, .agg #[.int .u64 (u : Nat), .int .i64 i, .slice a n c, .bool false]] w (put2 [0] 0 w) := by
  obtain ⟨wb, hwb⟩ : ∃ wb, wb = w.alloc (.cells #[.int .u64 (u : Nat), .int .i64 i, .slice a n c, .bool false] 27) := ⟨_, rfl⟩
  have hB : Hid (Below w.heap.size w wb) := by rw [hwb]; exact below_al w _
  have z3 : wb.cell? ⟨w.heap.size, 3, none⟩ = some (.bool false) := by rw [hwb]; simp
  go_enter Tryd.func22, Tryd.ntmps22
  go_upto_region 1 with fail
  rw [← hwb]
  clear hwb
  go_wp2_with fail
  go_ret2
  exact ⟨_, some wb.heap.size, rfl, own_one wb 0, hB.out.alloc hB.out.size _, Or.inr ⟨_, rfl, hB.out.size⟩⟩
set_option maxHeartbeats 1000000 in
set_option maxRecDepth 100000 in
theorem d_put_10 (w : World) (u : Nat) (i : Int) (a : Option Addr) (n c : Nat) (bs : List Nat) (hS : Sl w a n c bs) (hn : n ≤ 500) (t : Bool) : Calls Tryd.prog 22 #[.int .i64 10, .agg #[.int .u64 (u : Nat), .int .i64 i, .slice a n c, .bool t]] w (put2 (putL bs) 0 w) := by
  have hB := Lib.hid (below_al w (.cells #[.int .u64 (u : Nat), .int .i64 i, .slice a n c, .bool t] 27))
  have hP : Hid (∀ x, Below w.heap.size w x → Calls Tryd.prog 42 #[.slice a n c] x (clonePost 5 (bV (putL bs)) x)) := fun x hb => ref_put a n c bs (hS.below hb) (by omega)
  clear hS hn
  go_enter Tryd.func22, Tryd.ntmps22
  go_wp2_with (go_at_call 42; go_loud (refine (hP.out _ hB.out).mono ?_); intro e w2 q; obtain ⟨v, bo, rfl, q1, q2, q3⟩ := clone_put q hB.out; have Q1 := Lib.hid q1; have Q2 := Lib.hid q2; have Q3 := Lib.hid q3; clear q q1 q2 q3)
  go_ret2
  exact ⟨v, bo, rfl, Q1.out, Q2.out, Q3.out⟩
set_option maxHeartbeats 1000000 in
set_option maxRecDepth 100000 in
theorem d_put_no (w : World) (k : Int) (hk : k < 1 ∨ 10 < k) (u : Nat) (i : Int) (a : Option Addr) (n c : Nat) (t : Bool) : Calls Tryd.prog 22 #[.int .i64 k, .agg #[.int .u64 (u : Nat), .int .i64 i, .slice a n c, .bool t]] w (put2 [] 9 w) := by
  have hB := Lib.hid (below_al w (.cells #[.int .u64 (u : Nat), .int .i64 i, .slice a n c, .bool t] 27))
  have h9 : (k == 9) = false := beq_eq_false_iff_ne.2 (by omega)
  have h10 : (k == 10) = false := beq_eq_false_iff_ne.2 (by omega)
  have h9' : ¬ k = 9 := by omega
  have h10' : ¬ k = 10 := by omega
  by_cases h1 : k < 1
  · have j1 : ¬ 1 ≤ k := by omega
    have j5 : ¬ 5 ≤ k := by omega
    clear hk
    go_enter Tryd.func22, Tryd.ntmps22
    go_wp2_with fail
    go_ret2
    exact ⟨_, none, rfl, Own.nil _ _, hB.out, Or.inl rfl⟩
  · have j1 : 1 ≤ k := by omega
    have j5 : 5 ≤ k := by omega
    have j4 : ¬ k ≤ 4 := by omega
    have j8 : ¬ k ≤ 8 := by omega
    clear hk h1
    go_enter Tryd.func22, Tryd.ntmps22
    go_wp2_with fail
    go_ret2
    exact ⟨_, none, rfl, Own.nil _ _, hB.out, Or.inl rfl⟩
/-- the document's put, any kind -/
theorem doc_put (w : World) (k : Int) (u : Nat) (hu : u < 18446744073709551616) (i : Int) (hi1 : -9223372036854775808 ≤ i) (hi2 : i ≤ 9223372036854775807) (a : Option Addr) (n c : Nat) (bs : List Nat) (hS : Sl w a n c bs) (hn : n ≤ 500) (t : Bool) : Calls Tryd.prog 22 #[.int .i64 k, .agg #[.int .u64 (u : Nat), .int .i64 i, .slice a n c, .bool t]] w (put2 (rawP k u i bs t).1 (rawP k u i bs t).2 w) := by
  have hk : k = 1 ∨ k = 2 ∨ k = 3 ∨ k = 4 ∨ k = 5 ∨ k = 6 ∨ k = 7 ∨ k = 8 ∨ k = 9 ∨ k = 10 ∨ (k < 1 ∨ 10 < k) := by omega
  rcases hk with rfl | rfl | rfl | rfl | rfl | rfl | rfl | rfl | rfl | rfl | hk
  · exact d_put_1 w u hu i a n c t
  · exact d_put_2 w u hu i a n c t
  · exact d_put_3 w u hu i a n c t
  · exact d_put_4 w u hu i a n c t
  · exact d_put_5 w u i hi1 hi2 a n c t
  · exact d_put_6 w u i hi1 hi2 a n c t
  · exact d_put_7 w u i hi1 hi2 a n c t
  · exact d_put_8 w u i hi1 hi2 a n c t
  · cases t
    · exact d_put_9false w u i a n c
    · exact d_put_9true w u i a n c
  · exact d_put_10 w u i a n c bs hS hn t
  · have e : rawP k u i bs t = ([], 9) := by
      unfold rawP
      rw [if_neg (by omega), if_neg (by omega), if_neg (by omega), if_neg (by omega), if_neg (by omega), if_neg (by omega), if_neg (by omega), if_neg (by omega), if_neg (by omega), if_neg (by omega)]
    rw [e]
    exact d_put_no w k hk u i a n c t
set_option maxHeartbeats 1000000 in
set_option maxRecDepth 100000 in
/-- the document's Put -/
theorem doc_Put (w : World) (k : Int) (fl : Bool) (u : Nat) (hu : u < 18446744073709551616) (i : Int) (hi1 : -9223372036854775808 ≤ i) (hi2 : i ≤ 9223372036854775807) (a : Option Addr) (n c : Nat) (bs : List Nat) (hS : Sl w a n c bs) (hn : n ≤ 500) (t : Bool) : Calls Tryd.prog 8 #[.agg #[.int .i64 k, .bool fl], .agg #[.int .u64 (u : Nat), .int .i64 i, .slice a n c, .bool t]] w (putS (putP k fl u i bs t).1 (putP k fl u i bs t).2 w) := by
  have hB := Lib.hid (below_al2 w (.cells #[.int .i64 k, .bool fl] 23) (.cells #[.int .u64 (u : Nat), .int .i64 i, .slice a n c, .bool t] 27))
  have hP : Hid (∀ x, Below w.heap.size w x → Calls Tryd.prog 22 #[.int .i64 k, .agg #[.int .u64 (u : Nat), .int .i64 i, .slice a n c, .bool t]] x (put2 (rawP k u i bs t).1 (rawP k u i bs t).2 x)) := fun x hb => doc_put x k u hu i hi1 hi2 a n c bs (hS.below hb) hn t
  obtain ⟨o1, o2, o3⟩ := rawP_ok k u i bs t hS.at_.1 (by rw [hS.len]; exact hn)
  unfold putP
  generalize rawP k u i bs t = RR at *
  obtain ⟨R, r⟩ := RR
  dsimp only at o1 o2 o3 hP ⊢
  have O1 := Lib.hid o1
  have O2 := Lib.hid o2
  clear hS hn hu hi1 hi2 o1 o2
  by_cases hr : r = 0
  · subst hr
    clear o3
    cases fl with
    | true =>
      have hT : Hid (∀ x a c, Sl x a R.length c R → Calls Tryd.prog 23 #[.slice a R.length c] x (clonePost 5 (bV (othL R)) x)) := fun x a c h => ref_other a _ c R h (by have := O2.out; omega)
      have hO : Hid (∀ x ∈ othL R, x < 256) := othL_lt R
      rw [if_pos rfl]
      go_enter Tryd.func8, Tryd.ntmps8
      go_wp2_with (first
        | (go_at_call 23; go_loud (refine (hT.out _ _ _ Q1.out).mono ?_); intro e w3 q; obtain ⟨a3, c3, rfl, q1, q2⟩ := clone_sl q hO.out; have R1 := Lib.hid q1; have R2 := Lib.hid (Q2.out.trans (q2.mono Q2.out.size)); clear q q1 q2)
        | (go_at_call 22; go_loud (refine (hP.out _ hB.out).mono ?_); intro e w2 q; obtain ⟨a2, c2, rfl, q1, q2⟩ := put2_sl (q.up hB.out) O1.out
           have z1 := q.cells (p := ⟨w.heap.size, 0, none⟩) (v := .int .i64 k) (by simp)
           have z2 := q.cells (p := ⟨w.heap.size, 1, none⟩) (v := .bool true) (by simp)
           have Q1 := Lib.hid q1; have Q2 := Lib.hid q2; clear q q1 q2))
      go_ret2
      exact ⟨a3, c3, rfl, R1.out, R2.out⟩
    | false =>
      simp only [Bool.false_eq_true, if_false]
      go_enter Tryd.func8, Tryd.ntmps8
      go_wp2_with (go_at_call 22; go_loud (refine (hP.out _ hB.out).mono ?_); intro e w2 q; obtain ⟨a2, c2, rfl, q1, q2⟩ := put2_sl (q.up hB.out) O1.out
                   have z1 := q.cells (p := ⟨w.heap.size, 0, none⟩) (v := .int .i64 k) (by simp)
                   have z2 := q.cells (p := ⟨w.heap.size, 1, none⟩) (v := .bool false) (by simp)
                   have Q1 := Lib.hid q1; have Q2 := Lib.hid q2; clear q q1 q2)
      go_ret2
      exact ⟨a2, c2, rfl, Q1.out, Q2.out⟩
  · obtain rfl : R = [] := o3 hr
    have hr1 : (((r : Nat) : Int) == 0) = false := beq_eq_false_iff_ne.2 (by omega)
    have hE : Hid ((if fl = true then othL [] else []) = ([] : List Nat)) := by show _ = _; cases fl <;> rfl
    rw [hE.out]
    have hr2 : Hid (¬ r = 0) := hr
    clear o3 hr
    go_enter Tryd.func8, Tryd.ntmps8
    go_wp2_with (go_at_call 22; go_loud (refine (hP.out _ hB.out).mono ?_); intro e w2 q; obtain ⟨a2, c2, rfl, q1, q2⟩ := put2_sl (q.up hB.out) O1.out
                 have z1 := q.cells (p := ⟨w.heap.size, 0, none⟩) (v := .int .i64 k) (by simp)
                 have z2 := q.cells (p := ⟨w.heap.size, 1, none⟩) (v := .bool fl) (by simp)
                 have Q1 := Lib.hid q1; have Q2 := Lib.hid q2; clear q q1 q2)
    go_ret2
    exact ⟨none, 0, rfl, Sl.none _, Q2.out⟩
end Go.Proofs.YtbmefmfogdjecaaDoor
/- field.Bare, Check; the document's Bare; law05.theirs. -/
namespace Go.Proofs.YtbmefmfogdjecaaDoor
open Go.RowKit
def bareU (k : Int) (u : Nat) : Nat := if 1 ≤ k ∧ k ≤ 4 then u else 0
def bareI (k : Int) (i : Int) : Int := if 5 ≤ k ∧ k ≤ 8 then i else 0
def bareT (k : Int) (t : Bool) : Bool := if k = 9 then t else false
def bareB (k : Int) (bs : List Nat) : List Nat := if k = 10 then bs else []
/-- a value's own part alone -/
def bareP (k : Int) (u : Nat) (i : Int) (bs : List Nat) (t : Bool) (w : World) (e : Ending) (w' : World) : Prop := ∃ a c, e = .returned (.agg #[.int .u64 (bareU k u : Nat), .int .i64 (bareI k i), .slice a (bareB k bs).length c, .bool (bareT k t)]) ∧ Sl w' a (bareB k bs).length c (bareB k bs) ∧ Below w.heap.size w w'
theorem inf_v : (Tryd.prog.info? 33).map (·.size) = some 4 := by kernel_rfl
theorem inf_r : (Tryd.prog.info? 27).map (·.size) = some 4 := by kernel_rfl
set_option maxRecDepth 100000 in
theorem law_theirs (w : World) (u : Nat) (i : Int) (a : Option Addr) (n c : Nat) (t : Bool) : Calls Tryd.prog 7 #[.agg #[.int .u64 (u : Nat), .int .i64 i, .slice a n c, .bool t]] w (fun e w' => e = .returned (.agg #[.int .u64 (u : Nat), .int .i64 i, .slice a n c, .bool t]) ∧ Below w.heap.size w w') := by
  go_enter Tryd.func7, Tryd.ntmps7
  go_wp2_with fail
  exact bodyPost_ret (v := .agg #[.int .u64 (u : Nat), .int .i64 i, .slice a n c, .bool t]) (results_cell_row Tryd.results7 _ _ (w.heap.size + 1) 33 _ (0, 0) _ rfl (by first | exact heap_alloc2_new w _ _ | simp) Tryd.underlying33 rfl inf_v) rfl ⟨rfl, below_al2 _ _ _⟩
set_option maxRecDepth 100000 in
theorem f_check (w : World) (k : Int) (fl : Bool) : Calls Tryd.prog 11 #[.agg #[.int .i64 k, .bool fl]] w (fun e w' => e = .returned (.int .i64 (if 1 ≤ k ∧ k ≤ 10 then 0 else 9)) ∧ Below w.heap.size w w') := by
  have hB := Lib.hid (below_al w (.cells #[.int .i64 k, .bool fl] 32))
  by_cases h1 : k < 1
  · rw [if_neg (by omega)]
    go_enter Tryd.func11, Tryd.ntmps11
    go_wp2_with fail
    go_ret
    exact ⟨rfl, hB.out⟩
  · by_cases h2 : 10 < k
    · rw [if_neg (by omega)]
      go_enter Tryd.func11, Tryd.ntmps11
      go_wp2_with fail
      go_ret
      exact ⟨rfl, hB.out⟩
    · rw [if_pos (by omega)]
      go_enter Tryd.func11, Tryd.ntmps11
      go_wp2_with fail
      go_ret
      exact ⟨rfl, hB.out⟩
theorem heap3 (w : World) (A B C : Obj) : (((w.alloc A).alloc B).alloc C).heap[w.heap.size + 1 + 1]? = some C := by
  have := heap_alloc_new ((w.alloc A).alloc B) C
  rw [World.size_alloc, World.size_alloc] at this
  exact this
theorem below_al3 (w : World) (o o2 o3 : Obj) : Below w.heap.size w (((w.alloc o).alloc o2).alloc o3) := (below_al2 w o o2).alloc (by simp; omega) _
set_option maxHeartbeats 1000000 in
set_option maxRecDepth 100000 in
theorem f_bare_u (w : World) (k : Int) (hk : 1 ≤ k ∧ k ≤ 4) (fl : Bool) (u : Nat) (i : Int) (a : Option Addr) (n c : Nat) (t : Bool) : Calls Tryd.prog 9 #[.agg #[.int .i64 k, .bool fl], .agg #[.int .u64 (u : Nat), .int .i64 i, .slice a n c, .bool t]] w (fun e w' => e = .returned (.agg #[.int .u64 (u:Nat), .int .i64 0, .slice none 0 0, .bool false]) ∧ Below w.heap.size w w') := by
  obtain ⟨p1, p2⟩ := hk
  have h : k = 1 ∨ k = 2 ∨ k = 3 ∨ k = 4 ∨ k = 5 ∨ k = 6 ∨ k = 7 ∨ k = 8 ∨ k = 9 := by omega
  rcases h with rfl | rfl | rfl | rfl | rfl | rfl | rfl | rfl | rfl
  all_goals first
    | omega
    | (skip
       go_enter Tryd.func9, Tryd.ntmps9
       go_wp2_with (first | (go_at_call 24; (first | refine (f_whole _ _ (by omega)).mono ?_ | refine (f_whole_no _ _ (by omega)).mono ?_); rintro e w1 ⟨rfl, rfl⟩) | (go_at_call 25; (first | refine (f_signed _ _ (by omega)).mono ?_ | refine (f_signed_no _ _ (by omega)).mono ?_); rintro e w1 ⟨rfl, rfl⟩))
       exact bodyPost_ret (v := .agg #[.int .u64 (u:Nat), .int .i64 0, .slice none 0 0, .bool false]) (results_cell_row Tryd.results9 _ _ (w.heap.size + 1 + 1) 33 _ (0, 0) _ rfl (heap3 _ _ _ _) Tryd.underlying33 rfl inf_v) rfl ⟨rfl, below_al3 _ _ _ _⟩)
set_option maxHeartbeats 1000000 in
set_option maxRecDepth 100000 in
theorem df_bare_u (w : World) (k : Int) (hk : 1 ≤ k ∧ k ≤ 4) (fl : Bool) (u : Nat) (i : Int) (a : Option Addr) (n c : Nat) (t : Bool) : Calls Tryd.prog 13 #[.agg #[.int .i64 k, .bool fl], .agg #[.int .u64 (u : Nat), .int .i64 i, .slice a n c, .bool t]] w (fun e w' => e = .returned (.agg #[.int .u64 (u:Nat), .int .i64 0, .slice none 0 0, .bool false]) ∧ Below w.heap.size w w') := by
  obtain ⟨p1, p2⟩ := hk
  have h : k = 1 ∨ k = 2 ∨ k = 3 ∨ k = 4 ∨ k = 5 ∨ k = 6 ∨ k = 7 ∨ k = 8 ∨ k = 9 := by omega
  rcases h with rfl | rfl | rfl | rfl | rfl | rfl | rfl | rfl | rfl
  all_goals first
    | omega
    | (go_enter Tryd.func13, Tryd.ntmps13
       go_wp2_with fail
       exact bodyPost_ret (v := .agg #[.int .u64 (u:Nat), .int .i64 0, .slice none 0 0, .bool false]) (results_cell_row Tryd.results13 _ _ (w.heap.size + 1 + 1) 27 _ (0, 0) _ rfl (heap3 _ _ _ _) Tryd.underlying27 rfl inf_r) rfl ⟨rfl, below_al3 _ _ _ _⟩)

set_option maxHeartbeats 1000000 in
set_option maxRecDepth 100000 in
theorem f_bare_i (w : World) (k : Int) (hk : 5 ≤ k ∧ k ≤ 8) (fl : Bool) (u : Nat) (i : Int) (a : Option Addr) (n c : Nat) (t : Bool) : Calls Tryd.prog 9 #[.agg #[.int .i64 k, .bool fl], .agg #[.int .u64 (u : Nat), .int .i64 i, .slice a n c, .bool t]] w (fun e w' => e = .returned (.agg #[.int .u64 0, .int .i64 i, .slice none 0 0, .bool false]) ∧ Below w.heap.size w w') := by
  obtain ⟨p1, p2⟩ := hk
  have h : k = 1 ∨ k = 2 ∨ k = 3 ∨ k = 4 ∨ k = 5 ∨ k = 6 ∨ k = 7 ∨ k = 8 ∨ k = 9 := by omega
  rcases h with rfl | rfl | rfl | rfl | rfl | rfl | rfl | rfl | rfl
  all_goals first
    | omega
    | (skip
       go_enter Tryd.func9, Tryd.ntmps9
       go_wp2_with (first | (go_at_call 24; (first | refine (f_whole _ _ (by omega)).mono ?_ | refine (f_whole_no _ _ (by omega)).mono ?_); rintro e w1 ⟨rfl, rfl⟩) | (go_at_call 25; (first | refine (f_signed _ _ (by omega)).mono ?_ | refine (f_signed_no _ _ (by omega)).mono ?_); rintro e w1 ⟨rfl, rfl⟩))
       exact bodyPost_ret (v := .agg #[.int .u64 0, .int .i64 i, .slice none 0 0, .bool false]) (results_cell_row Tryd.results9 _ _ (w.heap.size + 1 + 1) 33 _ (0, 0) _ rfl (heap3 _ _ _ _) Tryd.underlying33 rfl inf_v) rfl ⟨rfl, below_al3 _ _ _ _⟩)
set_option maxHeartbeats 1000000 in
set_option maxRecDepth 100000 in
theorem df_bare_i (w : World) (k : Int) (hk : 5 ≤ k ∧ k ≤ 8) (fl : Bool) (u : Nat) (i : Int) (a : Option Addr) (n c : Nat) (t : Bool) : Calls Tryd.prog 13 #[.agg #[.int .i64 k, .bool fl], .agg #[.int .u64 (u : Nat), .int .i64 i, .slice a n c, .bool t]] w (fun e w' => e = .returned (.agg #[.int .u64 0, .int .i64 i, .slice none 0 0, .bool false]) ∧ Below w.heap.size w w') := by
  obtain ⟨p1, p2⟩ := hk
  have h : k = 1 ∨ k = 2 ∨ k = 3 ∨ k = 4 ∨ k = 5 ∨ k = 6 ∨ k = 7 ∨ k = 8 ∨ k = 9 := by omega
  rcases h with rfl | rfl | rfl | rfl | rfl | rfl | rfl | rfl | rfl
  all_goals first
    | omega
    | (go_enter Tryd.func13, Tryd.ntmps13
       go_wp2_with fail
       exact bodyPost_ret (v := .agg #[.int .u64 0, .int .i64 i, .slice none 0 0, .bool false]) (results_cell_row Tryd.results13 _ _ (w.heap.size + 1 + 1) 27 _ (0, 0) _ rfl (heap3 _ _ _ _) Tryd.underlying27 rfl inf_r) rfl ⟨rfl, below_al3 _ _ _ _⟩)

set_option maxHeartbeats 1000000 in
set_option maxRecDepth 100000 in
theorem f_bare_t (w : World) (k : Int) (hk : 9 ≤ k ∧ k ≤ 9) (fl : Bool) (u : Nat) (i : Int) (a : Option Addr) (n c : Nat) (t : Bool) : Calls Tryd.prog 9 #[.agg #[.int .i64 k, .bool fl], .agg #[.int .u64 (u : Nat), .int .i64 i, .slice a n c, .bool t]] w (fun e w' => e = .returned (.agg #[.int .u64 0, .int .i64 0, .slice none 0 0, .bool t]) ∧ Below w.heap.size w w') := by
  obtain ⟨p1, p2⟩ := hk
  have h : k = 1 ∨ k = 2 ∨ k = 3 ∨ k = 4 ∨ k = 5 ∨ k = 6 ∨ k = 7 ∨ k = 8 ∨ k = 9 := by omega
  rcases h with rfl | rfl | rfl | rfl | rfl | rfl | rfl | rfl | rfl
  all_goals first
    | omega
    | (skip
       go_enter Tryd.func9, Tryd.ntmps9
       go_wp2_with (first | (go_at_call 24; (first | refine (f_whole _ _ (by omega)).mono ?_ | refine (f_whole_no _ _ (by omega)).mono ?_); rintro e w1 ⟨rfl, rfl⟩) | (go_at_call 25; (first | refine (f_signed _ _ (by omega)).mono ?_ | refine (f_signed_no _ _ (by omega)).mono ?_); rintro e w1 ⟨rfl, rfl⟩))
       exact bodyPost_ret (v := .agg #[.int .u64 0, .int .i64 0, .slice none 0 0, .bool t]) (results_cell_row Tryd.results9 _ _ (w.heap.size + 1 + 1) 33 _ (0, 0) _ rfl (heap3 _ _ _ _) Tryd.underlying33 rfl inf_v) rfl ⟨rfl, below_al3 _ _ _ _⟩)
set_option maxHeartbeats 1000000 in
set_option maxRecDepth 100000 in
theorem df_bare_t (w : World) (k : Int) (hk : 9 ≤ k ∧ k ≤ 9) (fl : Bool) (u : Nat) (i : Int) (a : Option Addr) (n c : Nat) (t : Bool) : Calls Tryd.prog 13 #[.agg #[.int .i64 k, .bool fl], .agg #[.int .u64 (u : Nat), .int .i64 i, .slice a n c, .bool t]] w (fun e w' => e = .returned (.agg #[.int .u64 0, .int .i64 0, .slice none 0 0, .bool t]) ∧ Below w.heap.size w w') := by
  obtain ⟨p1, p2⟩ := hk
  have h : k = 1 ∨ k = 2 ∨ k = 3 ∨ k = 4 ∨ k = 5 ∨ k = 6 ∨ k = 7 ∨ k = 8 ∨ k = 9 := by omega
  rcases h with rfl | rfl | rfl | rfl | rfl | rfl | rfl | rfl | rfl
  all_goals first
    | omega
    | (go_enter Tryd.func13, Tryd.ntmps13
       go_wp2_with fail
       exact bodyPost_ret (v := .agg #[.int .u64 0, .int .i64 0, .slice none 0 0, .bool t]) (results_cell_row Tryd.results13 _ _ (w.heap.size + 1 + 1) 27 _ (0, 0) _ rfl (heap3 _ _ _ _) Tryd.underlying27 rfl inf_r) rfl ⟨rfl, below_al3 _ _ _ _⟩)
set_option maxHeartbeats 1000000 in
set_option maxRecDepth 100000 in
theorem f_bare_no (w : World) (k : Int) (hk : k < 1 ∨ 10 < k) (fl : Bool) (u : Nat) (i : Int) (a : Option Addr) (n c : Nat) (t : Bool) : Calls Tryd.prog 9 #[.agg #[.int .i64 k, .bool fl], .agg #[.int .u64 (u : Nat), .int .i64 i, .slice a n c, .bool t]] w (fun e w' => e = .returned (.agg #[.int .u64 0, .int .i64 0, .slice none 0 0, .bool false]) ∧ Below w.heap.size w w') := by
  have h9 : (k == 9) = false := beq_eq_false_iff_ne.2 (by omega)
  have h10 : (k == 10) = false := beq_eq_false_iff_ne.2 (by omega)
  have h9' : ¬ k = 9 := by omega
  have h10' : ¬ k = 10 := by omega
  go_enter Tryd.func9, Tryd.ntmps9
  go_wp2_with (first | (go_at_call 24; refine (f_whole_no _ _ (by omega)).mono ?_; rintro e w1 ⟨rfl, rfl⟩) | (go_at_call 25; refine (f_signed_no _ _ (by omega)).mono ?_; rintro e w1 ⟨rfl, rfl⟩))
  exact bodyPost_ret (v := .agg #[.int .u64 0, .int .i64 0, .slice none 0 0, .bool false]) (results_cell_row Tryd.results9 _ _ (w.heap.size + 1 + 1) 33 _ (0, 0) _ rfl (heap3 _ _ _ _) Tryd.underlying33 rfl inf_v) rfl ⟨rfl, below_al3 _ _ _ _⟩
set_option maxHeartbeats 1000000 in
set_option maxRecDepth 100000 in
theorem df_bare_no (w : World) (k : Int) (hk : k < 1 ∨ 10 < k) (fl : Bool) (u : Nat) (i : Int) (a : Option Addr) (n c : Nat) (t : Bool) : Calls Tryd.prog 13 #[.agg #[.int .i64 k, .bool fl], .agg #[.int .u64 (u : Nat), .int .i64 i, .slice a n c, .bool t]] w (fun e w' => e = .returned (.agg #[.int .u64 0, .int .i64 0, .slice none 0 0, .bool false]) ∧ Below w.heap.size w w') := by
  have h9 : (k == 9) = false := beq_eq_false_iff_ne.2 (by omega)
  have h10 : (k == 10) = false := beq_eq_false_iff_ne.2 (by omega)
  have h9' : ¬ k = 9 := by omega
  have h10' : ¬ k = 10 := by omega
  by_cases h1 : k < 1
  · have j1 : ¬ 1 ≤ k := by omega
    have j5 : ¬ 5 ≤ k := by omega
    clear hk
    go_enter Tryd.func13, Tryd.ntmps13
    go_wp2_with fail
    exact bodyPost_ret (v := .agg #[.int .u64 0, .int .i64 0, .slice none 0 0, .bool false]) (results_cell_row Tryd.results13 _ _ (w.heap.size + 1 + 1) 27 _ (0, 0) _ rfl (heap3 _ _ _ _) Tryd.underlying27 rfl inf_r) rfl ⟨rfl, below_al3 _ _ _ _⟩
  · have j1 : 1 ≤ k := by omega
    have j5 : 5 ≤ k := by omega
    have j4 : ¬ k ≤ 4 := by omega
    have j8 : ¬ k ≤ 8 := by omega
    clear hk h1
    go_enter Tryd.func13, Tryd.ntmps13
    go_wp2_with fail
    exact bodyPost_ret (v := .agg #[.int .u64 0, .int .i64 0, .slice none 0 0, .bool false]) (results_cell_row Tryd.results13 _ _ (w.heap.size + 1 + 1) 27 _ (0, 0) _ rfl (heap3 _ _ _ _) Tryd.underlying27 rfl inf_r) rfl ⟨rfl, below_al3 _ _ _ _⟩
set_option maxHeartbeats 1000000 in
set_option maxRecDepth 100000 in
theorem df_bare_b (w : World) (fl : Bool) (u : Nat) (i : Int) (a : Option Addr) (n c : Nat) (t : Bool) : Calls Tryd.prog 13 #[.agg #[.int .i64 10, .bool fl], .agg #[.int .u64 (u : Nat), .int .i64 i, .slice a n c, .bool t]] w (fun e w' => e = .returned (.agg #[.int .u64 0, .int .i64 0, .slice a n c, .bool false]) ∧ Below w.heap.size w w') := by
  go_enter Tryd.func13, Tryd.ntmps13
  go_wp2_with fail
  exact bodyPost_ret (v := .agg #[.int .u64 0, .int .i64 0, .slice a n c, .bool false]) (results_cell_row Tryd.results13 _ _ (w.heap.size + 1 + 1) 27 _ (0, 0) _ rfl (heap3 _ _ _ _) Tryd.underlying27 rfl inf_r) rfl ⟨rfl, below_al3 _ _ _ _⟩
end Go.Proofs.YtbmefmfogdjecaaDoor
/- field.Bare of a text. -/
namespace Go.Proofs.YtbmefmfogdjecaaDoor
open Go.RowKit
theorem gt_of {bo : Option Nat} {m x : Nat} (h : bo = none ∨ ∃ g, bo = some g ∧ x ≤ g) (hx : m < x) : ∀ g, bo = some g → m < g := fun g e => by
  rcases h with h | ⟨g', e', h⟩
  · rw [e] at h; cases h
  · rw [e] at e'; cases e'; omega
theorem blk_set {w : World} {g : Nat} {L : List Value} {t : TypeId} (h : w.heap[g]? = some (.cells L.toArray t (0, 0))) (i : Nat) (v : Value) : (w.setCell ⟨g, i, none⟩ v).heap[g]? = some (.cells (L.set i v).toArray t (0, 0)) := by
  rw [setCell_list _ _ _ _ _ _ h, setRow_heap _ _ _ _ _ _ h]
theorem sl_keep {w w' : World} {a : Option Addr} {bs : List Nat} {n c : Nat} {bo : Option Nat} (h : Own 5 w (.slice a n c) (bV bs) bo) (hb : ∀ x ∈ bs, x < 256) (hk : ∀ g, bo = some g → w'.heap[g]? = w.heap[g]?) : Sl w' a n c bs := by
  obtain ⟨a', c', e, h2⟩ := own_sl (h.keep hk) hb
  simp only [Value.slice.injEq] at e
  obtain ⟨rfl, rfl, rfl⟩ := e
  exact h2
set_option maxHeartbeats 1000000 in
set_option maxRecDepth 100000 in
theorem f_bare_b (w : World) (fl : Bool) (u : Nat) (i : Int) (a : Option Addr) (n c : Nat) (bs : List Nat) (hS : Sl w a n c bs) (hn : n ≤ 500) (t : Bool) : Calls Tryd.prog 9 #[.agg #[.int .i64 10, .bool fl], .agg #[.int .u64 (u : Nat), .int .i64 i, .slice a n c, .bool t]] w (fun e w' => ∃ a' c', e = .returned (.agg #[.int .u64 0, .int .i64 0, .slice a' bs.length c', .bool false]) ∧ Sl w' a' bs.length c' bs ∧ Below w.heap.size w w') := by
  have hB := Lib.hid (below_al3 w (.cells #[.int .i64 10, .bool fl] 32) (.cells #[.int .u64 (u : Nat), .int .i64 i, .slice a n c, .bool t] 33) (.cells #[.int .u64 0, .int .i64 0, .slice none 0 0, .bool false] 33))
  have hP : Hid (∀ x, Below w.heap.size w x → Calls Tryd.prog 26 #[.slice a n c] x (clonePost 5 (bV bs) x)) := fun x hb => cloneB_any x a n c bs hS.len (hS.below hb).at_ (by omega) (fun e => (hS.nil e).1)
  have hb2 := Lib.hid hS.at_.1
  clear hS hn
  go_enter Tryd.func9, Tryd.ntmps9
  go_wp2_with (first
    | (go_at_call 26; go_loud (refine (hP.out _ hB.out).mono ?_); intro e w2 q; obtain ⟨v2, bo, rfl, k1, q2, k3⟩ := q; obtain ⟨a2, c2, rfl, _⟩ := own_sl k1 hb2.out; have K1 := Lib.hid k1; have K3 : Hid (∀ g, bo = some g → w.heap.size + 1 + 1 < g) := gt_of k3 (by simp)
       have hblk := (q2.block (w.heap.size + 1 + 1) (by simp)).trans (heap3 w _ _ _)
       have y0 := cell_of_blk hblk 0
       have y1 := cell_of_blk hblk 1
       have y2 := cell_of_blk hblk 2
       have y3 := cell_of_blk hblk 3
       have t0 := frozen_of_blk hblk 0
       have t1 := frozen_of_blk hblk 1
       have t2 := frozen_of_blk hblk 2
       have t3 := frozen_of_blk hblk 3
       have hblk := Lib.hid hblk
       simp only [List.size_toArray, List.getElem?_toArray, List.getElem?_cons_zero, List.getElem?_cons_succ] at y0 y1 y2 y3
       have Q2 := Lib.hid (hB.out.trans (q2.mono hB.out.size)); clear k1 q2 k3)
    | (go_at_call 24; refine (f_whole_no _ _ (by omega)).mono ?_; rintro e w1 ⟨rfl, rfl⟩) | (go_at_call 25; refine (f_signed_no _ _ (by omega)).mono ?_; rintro e w1 ⟨rfl, rfl⟩))
  have hS2 := Lib.hid (sl_keep (w' := (((w2.setCell ⟨w.heap.size + 1 + 1, 0, none⟩ (.int .u64 0)).setCell ⟨w.heap.size + 1 + 1, 1, none⟩ (.int .i64 0)).setCell ⟨w.heap.size + 1 + 1, 2, none⟩ (.slice a2 bs.length c2)).setCell ⟨w.heap.size + 1 + 1, 3, none⟩ (.bool false)) K1.out hb2.out fun g e => by
    have := K3.out g e
    rw [Below.heap_setCell _ _ _ _ (by dsimp only; omega), Below.heap_setCell _ _ _ _ (by dsimp only; omega), Below.heap_setCell _ _ _ _ (by dsimp only; omega), Below.heap_setCell _ _ _ _ (by dsimp only; omega)])
  have hg : w.heap.size ≤ w.heap.size + 1 + 1 := by omega
  exact bodyPost_ret (v := .agg #[.int .u64 0, .int .i64 0, .slice a2 bs.length c2, .bool false]) (results_cell_row Tryd.results9 _ _ (w.heap.size + 1 + 1) 33 _ (0, 0) _ rfl (blk_set (blk_set (blk_set (blk_set (L := [.int .u64 0, .int .i64 0, .slice none 0 0, .bool false]) hblk.out 0 _) 1 _) 2 _) 3 _) Tryd.underlying33 rfl inf_v) rfl ⟨a2, c2, rfl, hS2.out, (((Q2.out.setCell hg _).setCell hg _).setCell hg _).setCell hg _⟩
/-- field.Bare, any kind -/
theorem f_Bare (w : World) (k : Int) (fl : Bool) (u : Nat) (i : Int) (a : Option Addr) (n c : Nat) (bs : List Nat) (hS : Sl w a n c bs) (hn : n ≤ 500) (t : Bool) : Calls Tryd.prog 9 #[.agg #[.int .i64 k, .bool fl], .agg #[.int .u64 (u : Nat), .int .i64 i, .slice a n c, .bool t]] w (bareP k u i bs t w) := by
  have hk : (1 ≤ k ∧ k ≤ 4) ∨ (5 ≤ k ∧ k ≤ 8) ∨ (9 ≤ k ∧ k ≤ 9) ∨ k = 10 ∨ (k < 1 ∨ 10 < k) := by omega
  rcases hk with hk | hk | hk | rfl | hk
  · refine (f_bare_u w k hk fl u i a n c t).mono fun e w' h => ?_
    obtain ⟨rfl, hB⟩ := h
    exact ⟨none, 0, by simp [bareU, bareI, bareT, bareB, hk, show ¬ (5 ≤ k ∧ k ≤ 8) by omega, show ¬ k = 9 by omega, show ¬ k = 10 by omega], by rw [bareB, if_neg (by omega)]; exact Sl.none _, hB⟩
  · refine (f_bare_i w k hk fl u i a n c t).mono fun e w' h => ?_
    obtain ⟨rfl, hB⟩ := h
    exact ⟨none, 0, by simp [bareU, bareI, bareT, bareB, hk, show ¬ (1 ≤ k ∧ k ≤ 4) by omega, show ¬ k = 9 by omega, show ¬ k = 10 by omega], by rw [bareB, if_neg (by omega)]; exact Sl.none _, hB⟩
  · refine (f_bare_t w k hk fl u i a n c t).mono fun e w' h => ?_
    obtain ⟨rfl, hB⟩ := h
    obtain rfl : k = 9 := by omega
    exact ⟨none, 0, by simp [bareU, bareI, bareT, bareB], Sl.none _, hB⟩
  · refine (f_bare_b w fl u i a n c bs hS hn t).mono fun e w' h => ?_
    obtain ⟨a', c', rfl, h1, hB⟩ := h
    exact ⟨a', c', rfl, h1, hB⟩
  · refine (f_bare_no w k hk fl u i a n c t).mono fun e w' h => ?_
    obtain ⟨rfl, hB⟩ := h
    exact ⟨none, 0, by simp [bareU, bareI, bareT, bareB, show ¬ (1 ≤ k ∧ k ≤ 4) by omega, show ¬ (5 ≤ k ∧ k ≤ 8) by omega, show ¬ k = 9 by omega, show ¬ k = 10 by omega], by rw [bareB, if_neg (by omega)]; exact Sl.none _, hB⟩
/-- the document's Bare, any kind -/
theorem doc_Bare (w : World) (k : Int) (fl : Bool) (u : Nat) (i : Int) (a : Option Addr) (n c : Nat) (bs : List Nat) (hS : Sl w a n c bs) (hn : n ≤ 500) (t : Bool) : Calls Tryd.prog 13 #[.agg #[.int .i64 k, .bool fl], .agg #[.int .u64 (u : Nat), .int .i64 i, .slice a n c, .bool t]] w (bareP k u i bs t w) := by
  have hk : (1 ≤ k ∧ k ≤ 4) ∨ (5 ≤ k ∧ k ≤ 8) ∨ (9 ≤ k ∧ k ≤ 9) ∨ k = 10 ∨ (k < 1 ∨ 10 < k) := by omega
  rcases hk with hk | hk | hk | rfl | hk
  · refine (df_bare_u w k hk fl u i a n c t).mono fun e w' h => ?_
    obtain ⟨rfl, hB⟩ := h
    exact ⟨none, 0, by simp [bareU, bareI, bareT, bareB, hk, show ¬ (5 ≤ k ∧ k ≤ 8) by omega, show ¬ k = 9 by omega, show ¬ k = 10 by omega], by rw [bareB, if_neg (by omega)]; exact Sl.none _, hB⟩
  · refine (df_bare_i w k hk fl u i a n c t).mono fun e w' h => ?_
    obtain ⟨rfl, hB⟩ := h
    exact ⟨none, 0, by simp [bareU, bareI, bareT, bareB, hk, show ¬ (1 ≤ k ∧ k ≤ 4) by omega, show ¬ k = 9 by omega, show ¬ k = 10 by omega], by rw [bareB, if_neg (by omega)]; exact Sl.none _, hB⟩
  · refine (df_bare_t w k hk fl u i a n c t).mono fun e w' h => ?_
    obtain ⟨rfl, hB⟩ := h
    obtain rfl : k = 9 := by omega
    exact ⟨none, 0, by simp [bareU, bareI, bareT, bareB], Sl.none _, hB⟩
  · refine (df_bare_b w fl u i a n c t).mono fun e w' h => ?_
    obtain ⟨rfl, hB⟩ := h
    have hl : bs.length = n := hS.len
    subst hl
    exact ⟨a, c, rfl, hS.below hB, hB⟩
  · refine (df_bare_no w k hk fl u i a n c t).mono fun e w' h => ?_
    obtain ⟨rfl, hB⟩ := h
    exact ⟨none, 0, by simp [bareU, bareI, bareT, bareB, show ¬ (1 ≤ k ∧ k ≤ 4) by omega, show ¬ (5 ≤ k ∧ k ≤ 8) by omega, show ¬ k = 9 by omega, show ¬ k = 10 by omega], by rw [bareB, if_neg (by omega)]; exact Sl.none _, hB⟩
end Go.Proofs.YtbmefmfogdjecaaDoor
/- What alive of law 5 asks: orders and takes of one byte. -/
namespace Go.Proofs.YtbmefmfogdjecaaDoor
open Go.RowKit
theorem or0_fin : ∀ x : Fin 256, bits .or .u64 0 ((x.val : Nat) : Int) = ((x.val : Nat) : Int) := by decide +kernel
set_option maxRecDepth 100000 in
theorem nan_u (w : World) (x : Nat) : Calls Tryd.prog 58 #[.int .u64 (x : Nat)] w (retIs (.bool false) w) := by
  have h : ((x : Int) == (x : Int)) = true := by simp
  go_enter Tryd.func58, Tryd.ntmps58
  go_wp2_with fail
  go_ret
  exact ⟨by simp, rfl⟩
def cmpN (x y : Nat) : Int := if x < y then -1 else if y < x then 1 else 0
set_option maxHeartbeats 1000000 in
set_option maxRecDepth 100000 in
theorem cmp_u (w : World) (x y : Nat) : Calls Tryd.prog 43 #[.int .u64 (x : Nat), .int .u64 (y : Nat)] w (retIs (.int .i64 (cmpN x y)) w) := by
  unfold cmpN
  by_cases h : x < y
  · have h1 : (x : Int) < (y : Int) := by omega
    rw [if_pos h]
    go_enter Tryd.func43, Tryd.ntmps43
    go_wp2_with (go_at_call 58; refine (nan_u _ _).mono ?_; rintro e w1 ⟨rfl, rfl⟩)
    go_ret
    exact ⟨rfl, rfl⟩
  · have h1 : ¬ (x : Int) < (y : Int) := by omega
    rw [if_neg h]
    by_cases h' : y < x
    · have h2 : (y : Int) < (x : Int) := by omega
      rw [if_pos h']
      go_enter Tryd.func43, Tryd.ntmps43
      go_wp2_with (go_at_call 58; refine (nan_u _ _).mono ?_; rintro e w1 ⟨rfl, rfl⟩)
      go_ret
      exact ⟨rfl, rfl⟩
    · have h2 : ¬ (y : Int) < (x : Int) := by omega
      rw [if_neg h']
      go_enter Tryd.func43, Tryd.ntmps43
      go_wp2_with (go_at_call 58; refine (nan_u _ _).mono ?_; rintro e w1 ⟨rfl, rfl⟩)
      go_ret
      exact ⟨rfl, rfl⟩
set_option maxRecDepth 100000 in
theorem u_cmp (w : World) (x y : Nat) : Calls Tryd.prog 27 #[.int .u64 (x : Nat), .int .u64 (y : Nat)] w (retIs (.int .i64 (cmpN x y)) w) := by
  go_enter Tryd.func27, Tryd.ntmps27
  go_wp2_with (go_at_call 43; refine (cmp_u _ _ _).mono ?_; rintro e w1 ⟨rfl, rfl⟩)
  go_ret
  exact ⟨rfl, rfl⟩
set_option maxHeartbeats 1000000 in
set_option maxRecDepth 100000 in
/-- two numbers of one byte that fall -/
theorem f_cmp1 (w : World) (x y : Nat) : Calls Tryd.prog 14 #[.agg #[.int .i64 1, .bool true], .agg #[.int .u64 (x : Nat), .int .i64 0, .slice none 0 0, .bool false], .agg #[.int .u64 (y : Nat), .int .i64 0, .slice none 0 0, .bool false]] w (fun e w' => e = .returned (.int .i64 (cmpN y x)) ∧ Below w.heap.size w w') := by
  have hC : Hid (∀ w, Calls Tryd.prog 27 #[.int .u64 (y : Nat), .int .u64 (x : Nat)] w (retIs (.int .i64 (cmpN y x)) w)) := fun w => u_cmp w y x
  go_enter Tryd.func14, Tryd.ntmps14
  go_wp2_with (first | (go_at_call 27; refine (hC.out _).mono ?_; rintro e w1 ⟨rfl, rfl⟩) | (go_at_call 24; refine (f_whole _ _ (by omega)).mono ?_; rintro e w1 ⟨rfl, rfl⟩))
  go_ret
  exact ⟨rfl, below_al3 _ _ _ _⟩
set_option maxHeartbeats 1000000 in
set_option maxRecDepth 100000 in
theorem f_same1 (w : World) (x : Nat) : Calls Tryd.prog 16 #[.agg #[.int .i64 1, .bool true], .agg #[.int .u64 (x : Nat), .int .i64 0, .slice none 0 0, .bool false], .agg #[.int .u64 (x : Nat), .int .i64 0, .slice none 0 0, .bool false]] w (fun e w' => e = .returned (.bool true) ∧ Below w.heap.size w w') := by
  have hC : Hid (∀ v, Calls Tryd.prog 14 #[.agg #[.int .i64 1, .bool true], .agg #[.int .u64 (x : Nat), .int .i64 0, .slice none 0 0, .bool false], .agg #[.int .u64 (x : Nat), .int .i64 0, .slice none 0 0, .bool false]] v (fun e w' => e = .returned (.int .i64 0) ∧ Below v.heap.size v w')) := fun v => by
    have := f_cmp1 v x x
    rw [show cmpN x x = 0 by simp [cmpN]] at this
    exact this
  have hB := Lib.hid (below_al3 w (.cells #[.int .i64 1, .bool true] 32) (.cells #[.int .u64 (x : Nat), .int .i64 0, .slice none 0 0, .bool false] 33) (.cells #[.int .u64 (x : Nat), .int .i64 0, .slice none 0 0, .bool false] 33))
  go_enter Tryd.func16, Tryd.ntmps16
  go_wp2_with (go_at_call 14; go_loud (refine (hC.out _).mono ?_); rintro e w1 ⟨rfl, q⟩; have hB1 := Lib.hid (hB.out.trans (q.mono hB.out.size)); clear q)
  go_ret
  exact ⟨rfl, hB1.out⟩
set_option maxHeartbeats 1000000 in
set_option maxRecDepth 100000 in
/-- one byte taken -/
theorem u_take1 (w : World) (p : Addr) (c x y : Nat) (hS : Sl w (some p) 2 c [x, y]) : Calls Tryd.prog 48 #[.int .i64 1, .slice (some p) 2 c] w (fun e w' => ∃ a' c' bo, e = .returned (.tuple #[.int .u64 (x : Nat), .slice a' 1 c', .int .i64 0]) ∧ Own 5 w' (.slice a' 1 c') (bV [y]) bo ∧ Below w.heap.size w w' ∧ (bo = none ∨ ∃ g, bo = some g ∧ w.heap.size ≤ g)) := by
  have hx : w.cell? p = some (.int .u8 (x : Nat)) := by
    obtain ⟨p', e, h1, h2⟩ := hS.at_.2 0 (by simp)
    cases e
    rwa [Go.Addr.add_zero'] at h2
  have hx8 : x < 256 := hS.at_.1 x (by simp)
  have hy8 : y < 256 := hS.at_.1 y (by simp)
  have hor : bits .or .u64 0 (x : Int) = (x : Int) := or0_fin ⟨x, hx8⟩
  have hc2 := hS.cap
  have hcm := hS.capm
  have hC : Hid (∀ c', Calls Tryd.prog 26 #[.slice (some ⟨p.block, p.off + 1, none⟩) 1 c'] w (clonePost 5 (bV [y]) w)) := fun c' => by
    refine cloneB_any w _ 1 c' [y] rfl ⟨by simp [hy8], fun i hi => ?_⟩ (by omega) (fun e => by cases e)
    obtain rfl : i = 0 := by simp at hi; omega
    obtain ⟨p', e, h1, h2⟩ := hS.at_.2 1 (by simp)
    cases e
    exact ⟨_, rfl, h1, h2⟩
  have hb : Hid (∀ z ∈ [y], z < 256) := by intro z hz; simp at hz; omega
  clear hS
  go_enter Tryd.func48, Tryd.ntmps48
  go_wp2_with (go_at_call 60; refine (u_width_1 _).mono ?_; rintro e w1 ⟨rfl, rfl⟩)
  go_loopw [7, 9, 23] (fun v7 v9 v23 wr => ((v7 = .int .u64 0 ∧ v23 = .int .i64 0) ∨ (v7 = .int .u64 (x : Nat) ∧ v23 = .int .i64 1)) ∧ wr = w1) (fun _ _ v23 _ => (2 - intOf v23).toNat)
  case atStart => exact ⟨Or.inl ⟨rfl, rfl⟩, rfl⟩
  case round =>
    obtain ⟨⟨rfl, rfl⟩ | ⟨rfl, rfl⟩, rfl⟩ := hrel
    · go_wp2_with fail
      go_roundw
      · exact ⟨Or.inr ⟨rfl, rfl⟩, by first | rfl | trivial⟩
      · simp only [intOf]; omega
    · go_wp2_with (go_at_call 26; go_loud (refine (hC.out _).mono ?_); intro e w2 q; obtain ⟨v2, bo, rfl, q1, q2, q3⟩ := q; obtain ⟨a2, c2, rfl, _⟩ := own_sl q1 hb.out; have Q1 := Lib.hid q1; have Q2 := Lib.hid q2; have Q3 := Lib.hid q3; clear q1 q2 q3)
      go_ret3
      exact ⟨a2, c2, bo, rfl, Q1.out, Q2.out, Q3.out⟩
end Go.Proofs.YtbmefmfogdjecaaDoor
/- What alive of law 5 asks: field.take, Take of one byte. -/
namespace Go.Proofs.YtbmefmfogdjecaaDoor
open Go.RowKit
theorem results_cell_tmp2 {P : Program} {fn : Func} {p u x : Tmp} {ty : TypeId} (h : fn.results = #[.cell p ty, .tmp u, .tmp x]) (tmps : Array Value) (w : World) (g : Nat) (t : TypeId) (cs : Array Value) (fr : Nat × Nat) (d : TypeDesc)
    (hp : tmps.getD p undef = .pointer (some ⟨g, 0, none⟩)) (hg : w.heap[g]? = some (.cells cs t fr))
    (hu : P.underlying ty = some d) (hd : (match d with | .struct _ | .array _ _ => true | _ => false) = true) (hi : (P.info? ty).map (·.size) = some cs.size) :
    (results fn tmps).run P w = .ok (.tuple #[.agg cs, tmps.getD u undef, tmps.getD x undef]) w := by
  have hl := run_loadVar_row (P := P) w g t ty cs fr d hg hu hd hi
  have hp' : tmps[p]?.getD undef = .pointer (some ⟨g, 0, none⟩) := by simpa [Array.getD_eq_getD_getElem?] using hp
  simp [results, h, hp', asAddr, hl]
abbrev zV : Obj := .cells #[.int .u64 0, .int .i64 0, .slice none 0 0, .bool false] 33
theorem heap3b (w : World) (A B C : Obj) : (((w.alloc A).alloc B).alloc C).heap[w.heap.size + 1]? = some B := by
  rw [Below.heap_alloc _ _ _ (by simp)]
  exact heap_alloc2_new w A B
/-- the result written over its box, behind a store to the box next to it -/
theorem take_fin {w w2 : World} {s x : Nat} {v : Value} {L : List Nat} {bo : Option Nat} (hb : w2.heap[s + 1]? = some (.cells [Value.int .u64 0, .int .i64 0, .slice none 0 0, .bool false].toArray 33 (0, 0))) (hO : Own 5 w2 v (bV L) bo) (hK : ∀ g, bo = some g → s + 1 + 1 < g) (hs : s = w.heap.size) (hB : Below w.heap.size w w2) :
    (((((w2.setCell ⟨s + 1 + 1, 0, none⟩ (.int .u64 (x : Nat))).setCell ⟨s + 1, 0, none⟩ (.int .u64 (x : Nat))).setCell ⟨s + 1, 1, none⟩ (.int .i64 0)).setCell ⟨s + 1, 2, none⟩ (.slice none 0 0)).setCell ⟨s + 1, 3, none⟩ (.bool false)).heap[s + 1]? = some (.cells #[.int .u64 (x : Nat), .int .i64 0, .slice none 0 0, .bool false] 33)
    ∧ Own 5 (((((w2.setCell ⟨s + 1 + 1, 0, none⟩ (.int .u64 (x : Nat))).setCell ⟨s + 1, 0, none⟩ (.int .u64 (x : Nat))).setCell ⟨s + 1, 1, none⟩ (.int .i64 0)).setCell ⟨s + 1, 2, none⟩ (.slice none 0 0)).setCell ⟨s + 1, 3, none⟩ (.bool false)) v (bV L) bo
    ∧ Below w.heap.size w (((((w2.setCell ⟨s + 1 + 1, 0, none⟩ (.int .u64 (x : Nat))).setCell ⟨s + 1, 0, none⟩ (.int .u64 (x : Nat))).setCell ⟨s + 1, 1, none⟩ (.int .i64 0)).setCell ⟨s + 1, 2, none⟩ (.slice none 0 0)).setCell ⟨s + 1, 3, none⟩ (.bool false)) := by
  have h1 : w.heap.size ≤ s + 1 := by omega
  have h2 : w.heap.size ≤ s + 1 + 1 := by omega
  refine ⟨?_, hO.keep fun g e => ?_, ((((hB.setCell h2 _).setCell h1 _).setCell h1 _).setCell h1 _).setCell h1 _⟩
  · have h0 : (w2.setCell ⟨s + 1 + 1, 0, none⟩ (.int .u64 (x : Nat))).heap[s + 1]? = some (.cells [Value.int .u64 0, .int .i64 0, .slice none 0 0, .bool false].toArray 33 (0, 0)) := by
      rw [Below.heap_setCell _ _ _ _ (by dsimp only; omega)]; exact hb
    exact blk_set (blk_set (blk_set (blk_set h0 0 _) 1 _) 2 _) 3 _
  · have := hK g e
    rw [Below.heap_setCell _ _ _ _ (by dsimp only; omega), Below.heap_setCell _ _ _ _ (by dsimp only; omega), Below.heap_setCell _ _ _ _ (by dsimp only; omega), Below.heap_setCell _ _ _ _ (by dsimp only; omega), Below.heap_setCell _ _ _ _ (by dsimp only; omega)]
set_option maxHeartbeats 1000000 in
set_option maxRecDepth 100000 in
theorem f_take1 (w : World) (p : Addr) (c x y : Nat) (hS : Sl w (some p) 2 c [x, y]) : Calls Tryd.prog 32 #[.agg #[.int .i64 1, .bool true], .slice (some p) 2 c] w (fun e w' => ∃ a' c' bo, e = .returned (.tuple #[.agg #[.int .u64 (x : Nat), .int .i64 0, .slice none 0 0, .bool false], .slice a' 1 c', .int .i64 0]) ∧ Own 5 w' (.slice a' 1 c') (bV [y]) bo ∧ Below w.heap.size w w' ∧ (bo = none ∨ ∃ g, bo = some g ∧ w.heap.size ≤ g)) := by
  have hB := Lib.hid (below_al3 w (.cells #[.int .i64 1, .bool true] 32) (.cells #[.int .u64 0, .int .i64 0, .slice none 0 0, .bool false] 33) (.cells #[.int .u64 0, .int .i64 0, .slice none 0 0, .bool false] 33))
  have hT : Hid (∀ z, Below w.heap.size w z → _) := fun z hb => u_take1 z p c x y (hS.below hb)
  clear hS
  go_enter Tryd.func32, Tryd.ntmps32
  go_wp2_with (first
    | (go_at_call 48; go_loud (refine (hT.out _ hB.out).mono ?_; rintro e w2 ⟨a2, c2, bo, rfl, q1, q2, q3⟩)
       have hb7 := (q2.block (w.heap.size + 1 + 1) (by simp)).trans (heap3 w _ _ _)
       have hb4 := (q2.block (w.heap.size + 1) (by first | (simp; done) | (simp; omega))).trans (heap3b w _ _ _)
       have y0 := cell_of_blk hb7 0
       have y1 := cell_of_blk hb7 1
       have y2 := cell_of_blk hb7 2
       have y3 := cell_of_blk hb7 3
       have t0 := frozen_of_blk hb7 0
       have z0 := cell_of_blk hb4 0
       have z1 := cell_of_blk hb4 1
       have z2 := cell_of_blk hb4 2
       have z3 := cell_of_blk hb4 3
       have s0 := frozen_of_blk hb4 0
       have s1 := frozen_of_blk hb4 1
       have s2 := frozen_of_blk hb4 2
       have s3 := frozen_of_blk hb4 3
       simp only [List.size_toArray, List.getElem?_toArray, List.getElem?_cons_zero, List.getElem?_cons_succ] at y0 y1 y2 y3 z0 z1 z2 z3
       have hb4 := Lib.hid hb4
       have K3 : Hid (∀ g, bo = some g → w.heap.size + 1 + 1 < g) := gt_of q3 (by simp)
       have Q1 := Lib.hid q1; have Q2 := Lib.hid (hB.out.trans (q2.mono hB.out.size)); clear hb7 q1 q2 q3)
    | (go_at_call 35; refine (f_width_1 _).mono ?_; rintro e w1 ⟨rfl, rfl⟩)
    | (go_at_call 24; refine (f_whole _ _ (by omega)).mono ?_; rintro e w1 ⟨rfl, rfl⟩))
  obtain ⟨r1, r2, r3⟩ := take_fin (x := x) hb4.out Q1.out K3.out rfl Q2.out
  exact bodyPost_ret (v := .tuple #[.agg #[.int .u64 (x : Nat), .int .i64 0, .slice none 0 0, .bool false], .slice a2 1 c2, .int .i64 0]) (results_cell_tmp2 Tryd.results32 _ _ (w.heap.size + 1) 33 _ (0, 0) _ rfl r1 Tryd.underlying33 rfl inf_v) rfl ⟨a2, c2, bo, rfl, r2, r3, by
    rcases hbo : bo with _ | g
    · exact Or.inl rfl
    · exact Or.inr ⟨g, rfl, by have := K3.out g hbo; omega⟩⟩
end Go.Proofs.YtbmefmfogdjecaaDoor
/- What alive of law 5 asks: field.Take of one byte that falls. -/
namespace Go.Proofs.YtbmefmfogdjecaaDoor
open Go.RowKit
theorem below_at {w x : World} (h : Below w.heap.size w x) (o : Obj) : Below w.heap.size w (x.alloc o) := h.alloc h.size o
/-- a new box of a value -/
structure NV (B : Nat) (w : World) (g : Nat) : Prop where
  blk : w.heap[g]? = some (.cells [Value.int .u64 0, .int .i64 0, .slice none 0 0, .bool false].toArray 33 (0, 0))
  ge : B ≤ g
theorem NV.lt {B g : Nat} {w : World} (h : NV B w g) : g < w.heap.size := (Array.getElem?_eq_some_iff.1 h.blk).1
theorem NV.next {B g : Nat} {X w' : World} (h : NV B X g) (z : Below X.heap.size X w') : NV B w' g := ⟨(z.block _ h.lt).trans h.blk, h.ge⟩
theorem NV.drew {B g : Nat} {X : World} (h : NV B X g) : NV B X.drew g := ⟨h.blk, h.ge⟩
theorem NV.drewN {B g : Nat} {X : World} (h : NV B X g) (n : Nat) : NV B (X.drewN n) g := ⟨h.blk, h.ge⟩
theorem NV.new {W a : World} (h : Below a.heap.size a W) : NV a.heap.size (W.alloc zV) W.heap.size := ⟨heap_alloc_new W _, h.size⟩
theorem below_then {w x y : World} (h : Below w.heap.size w x) (q : Below x.heap.size x y) : Below w.heap.size w y := h.trans (q.mono h.size)
theorem le_bo {w x : World} {bo : Option Nat} (q : bo = none ∨ ∃ g, bo = some g ∧ x.heap.size ≤ g) (h : Below w.heap.size w x) : ∀ e, bo = some e → w.heap.size ≤ e := fun e he => by
  rcases q with q | ⟨g, e', q⟩
  · rw [he] at q; cases q
  · rw [he] at e'; cases e'; exact Nat.le_trans h.size q
theorem gt_nv {B g : Nat} {x : World} {bo : Option Nat} (q : bo = none ∨ ∃ g, bo = some g ∧ x.heap.size ≤ g) (h : NV B x g) : ∀ e, bo = some e → g < e := gt_of q h.lt
theorem NV.facts {B g : Nat} {w : World} (h : NV B w g) : w.cell? ⟨g, 0, none⟩ = some (.int .u64 0) ∧ w.cell? ⟨g, 1, none⟩ = some (.int .i64 0) ∧ w.cell? ⟨g, 2, none⟩ = some (.slice none 0 0) ∧ w.cell? ⟨g, 3, none⟩ = some (.bool false) ∧ w.frozen? ⟨g, 0, none⟩ = false ∧ w.frozen? ⟨g, 1, none⟩ = false ∧ w.frozen? ⟨g, 2, none⟩ = false ∧ w.frozen? ⟨g, 3, none⟩ = false :=
  ⟨by rw [cell_of_blk h.blk]; rfl, by rw [cell_of_blk h.blk]; rfl, by rw [cell_of_blk h.blk]; rfl, by rw [cell_of_blk h.blk]; rfl, frozen_of_blk h.blk 0, frozen_of_blk h.blk 1, frozen_of_blk h.blk 2, frozen_of_blk h.blk 3⟩
theorem NV.keep {B g : Nat} {w : World} (h : NV B w g) {b j : Nat} (hb : b < B) {v : Value} (e : w.cell? ⟨b, j, none⟩ = some v) (v0 v1 v2 v3 : Value) : ((((w.setCell ⟨g, 0, none⟩ v0).setCell ⟨g, 1, none⟩ v1).setCell ⟨g, 2, none⟩ v2).setCell ⟨g, 3, none⟩ v3).cell? ⟨b, j, none⟩ = some v := by
  have := h.ge
  rw [← e]
  refine World.cell?_of_block ?_
  rw [Below.heap_setCell _ _ _ _ (by dsimp only; omega), Below.heap_setCell _ _ _ _ (by dsimp only; omega), Below.heap_setCell _ _ _ _ (by dsimp only; omega), Below.heap_setCell _ _ _ _ (by dsimp only; omega)]
theorem NV.keep2 {B g : Nat} {w : World} (h : NV B w g) {b j : Nat} (hb : b ≠ g) {v : Value} (e : w.cell? ⟨b, j, none⟩ = some v) (v0 v1 v2 v3 : Value) : ((((w.setCell ⟨g, 0, none⟩ v0).setCell ⟨g, 1, none⟩ v1).setCell ⟨g, 2, none⟩ v2).setCell ⟨g, 3, none⟩ v3).cell? ⟨b, j, none⟩ = some v := by
  rw [← e]
  refine World.cell?_of_block ?_
  rw [Below.heap_setCell _ _ _ _ hb, Below.heap_setCell _ _ _ _ hb, Below.heap_setCell _ _ _ _ hb, Below.heap_setCell _ _ _ _ hb]
theorem NV.sl {B g : Nat} {w : World} (h : NV B w g) (v0 v1 v2 v3 : Value) {a : Option Addr} {n c : Nat} {bs : List Nat} (s : Sl w a n c bs) : Sl ((((w.setCell ⟨g, 0, none⟩ v0).setCell ⟨g, 1, none⟩ v1).setCell ⟨g, 2, none⟩ v2).setCell ⟨g, 3, none⟩ v3) a n c bs := by
  refine ⟨s.len, ⟨s.at_.1, fun i hi => ?_⟩, s.cap, s.capm, s.nil⟩
  obtain ⟨p, e, q1, q2⟩ := s.at_.2 i hi
  have hne : (p.add i).block ≠ g := fun q => by
    rw [World.cell?, q, h.blk] at q2
    simp only at q2
    split at q2
    · cases q2
    · rcases ho : (p.add i).off with _ | _ | _ | _ | o <;> rw [ho] at q2 <;> simp at q2
  have hh : ((((w.setCell ⟨g, 0, none⟩ v0).setCell ⟨g, 1, none⟩ v1).setCell ⟨g, 2, none⟩ v2).setCell ⟨g, 3, none⟩ v3).heap[(p.add i).block]? = w.heap[(p.add i).block]? := by
    rw [Below.heap_setCell _ _ _ _ hne, Below.heap_setCell _ _ _ _ hne, Below.heap_setCell _ _ _ _ hne, Below.heap_setCell _ _ _ _ hne]
  refine ⟨p, e, ?_, (World.cell?_of_block hh).trans q2⟩
  rw [Array.getElem?_eq_getElem q1] at hh
  exact (Array.getElem?_eq_some_iff.1 hh).1
/-- a value in a box, and bytes beside it -/
structure VB (B : World) (w : World) (g : Nat) (v0 v1 v2 v3 : Value) (s : Value) (L : List Nat) (bo : Option Nat) : Prop where
  old : Below B.heap.size B w
  blk : w.heap[g]? = some (.cells [v0, v1, v2, v3].toArray 33 (0, 0))
  ge : B.heap.size ≤ g
  own : Own 5 w s (bV L) bo
  new : ∀ e, bo = some e → B.heap.size ≤ e ∧ e ≠ g
theorem vb_fin {B w : World} {g : Nat} {v0 v1 v2 v3 s : Value} {L : List Nat} {bo : Option Nat} (h : NV B.heap.size w g) (hB : Below B.heap.size B w) (hO : Own 5 w s (bV L) bo) (hn : ∀ e, bo = some e → B.heap.size ≤ e) (hg : ∀ e, bo = some e → g < e) : VB B ((((w.setCell ⟨g, 0, none⟩ v0).setCell ⟨g, 1, none⟩ v1).setCell ⟨g, 2, none⟩ v2).setCell ⟨g, 3, none⟩ v3) g v0 v1 v2 v3 s L bo := by
  refine ⟨(((hB.setCell h.ge _).setCell h.ge _).setCell h.ge _).setCell h.ge _, blk_set (blk_set (blk_set (blk_set h.blk 0 _) 1 _) 2 _) 3 _, h.ge, hO.keep fun e q => ?_, fun e q => ⟨hn e q, by have := hg e q; omega⟩⟩
  have := hg e q
  rw [Below.heap_setCell _ _ _ _ (by dsimp only; omega), Below.heap_setCell _ _ _ _ (by dsimp only; omega), Below.heap_setCell _ _ _ _ (by dsimp only; omega), Below.heap_setCell _ _ _ _ (by dsimp only; omega)]
theorem vb_new {B w : World} {v0 v1 v2 v3 s : Value} {L : List Nat} {bo : Option Nat} (hB : Below B.heap.size B w) (hO : Own 5 w s (bV L) bo) (hn : ∀ e, bo = some e → B.heap.size ≤ e) : VB B (w.alloc (.cells #[v0, v1, v2, v3] 33)) w.heap.size v0 v1 v2 v3 s L bo := by
  have hlt : ∀ e, bo = some e → e < w.heap.size := fun e q => by
    subst q
    exact hO.lt
  exact ⟨hB.alloc hB.size _, heap_alloc_new w _, hB.size, hO.keep fun e q => Below.heap_alloc _ _ _ (hlt e q), fun e q => ⟨hn e q, by have := hlt e q; omega⟩⟩
set_option maxHeartbeats 4000000 in
set_option maxRecDepth 100000 in
theorem f_Take1 (w : World) (p : Addr) (c x y : Nat) (hS : Sl w (some p) 2 c [255 - x, 255 - y]) (hx : x < 256) (hy : y < 256) : Calls Tryd.prog 17 #[.agg #[.int .i64 1, .bool true], .slice (some p) 2 c] w (fun e w' => ∃ a' c', e = .returned (.tuple #[.agg #[.int .u64 (x : Nat), .int .i64 0, .slice none 0 0, .bool false], .slice a' 1 c', .int .i64 0]) ∧ Sl w' a' 1 c' [255 - y] ∧ Below w.heap.size w w') := by
  obtain ⟨wb, hwb⟩ : ∃ wb, wb = (w.alloc (.cells #[.int .i64 1, .bool true] 32)).alloc zV := ⟨_, rfl⟩
  have hB : Hid (Below w.heap.size w wb) := by rw [hwb]; exact below_al2 w _ _
  have hc : Hid (∀ z, Below wb.heap.size wb z → z.cell? ⟨w.heap.size, 0, none⟩ = some (.int .i64 1) ∧ z.cell? ⟨w.heap.size, 1, none⟩ = some (.bool true) ∧ NV w.heap.size z (w.heap.size + 1)) := fun z hz => by
    have hN : NV w.heap.size wb (w.heap.size + 1) := ⟨by rw [hwb]; exact heap_alloc2_new w _ _, by omega⟩
    exact ⟨below_cells hz rfl (by rw [hwb]; simp), below_cells hz rfl (by rw [hwb]; simp), hN.next hz⟩
  have hT1 : Hid (∀ z, Below wb.heap.size wb z → Calls Tryd.prog 21 #[.agg #[.int .i64 1, .bool true], .slice (some p) 2 c] z (slPost [x, y] z)) := fun z hz => by
    have := f_turn z 1 true (some p) 2 c _ (hS.below (hB.out.trans (hz.mono hB.out.size))) (by omega)
    rwa [if_pos rfl, show othL [255 - x, 255 - y] = [x, y] by simp [othL]; omega] at this
  have hT2 : Hid (∀ z a c, Sl z a 1 c [y] → Calls Tryd.prog 21 #[.agg #[.int .i64 1, .bool true], .slice a 1 c] z (slPost [255 - y] z)) := fun z a c h => f_turn z 1 true a 1 c _ h (by omega)
  have hy2 : Hid (∀ q ∈ [y], q < 256) := by intro q hq; simp at hq; omega
  have R0 := Lib.hid (Below.refl wb.heap.size wb)
  clear hS
  go_enter Tryd.func17, Tryd.ntmps17
  go_upto_region 1 with fail
  rw [← hwb]
  clear hwb
  obtain ⟨f0, f1, _⟩ := hc.out wb R0.out
  have hl0 := cell_lt f0
  dsimp only at hl0
  go_cut [7, 8, 9] from 10 to 18 (fun s7 s8 s9 w' => ∃ g a' c' bo, s7 = .pointer (some ⟨g, 0, none⟩) ∧ s8 = .slice a' 1 c' ∧ s9 = .int .i64 0 ∧ VB wb w' g (.int .u64 (x : Nat)) (.int .i64 0) (.slice none 0 0) (.bool false) (.slice a' 1 c') [y] bo)
  case first =>
    go_region_held3 (fun w' => w'.cell? ⟨w.heap.size, 0, none⟩ = some (.int .i64 1) ∧ w'.cell? ⟨w.heap.size, 1, none⟩ = some (.bool true)) (first | go_keep | exact ⟨NVk.out.keep hl0 f0 _ _ _ _, NVk.out.keep hl0 f1 _ _ _ _⟩)
      (first
      | (have g0 := B1; go_at_call 32; refine (hTk.out _ (by (first | (first | (first | exact Hid.out (by assumption) | exact Below.refl _ _) | (with_reducible refine Below.drew ?_; (first | exact Hid.out (by assumption) | exact Below.refl _ _)) | (with_reducible refine below_drewN ?_ _; (first | exact Hid.out (by assumption) | exact Below.refl _ _))) | (with_reducible refine below_at ?_ _; (first | (first | exact Hid.out (by assumption) | exact Below.refl _ _) | (with_reducible refine Below.drew ?_; (first | exact Hid.out (by assumption) | exact Below.refl _ _)) | (with_reducible refine below_drewN ?_ _; (first | exact Hid.out (by assumption) | exact Below.refl _ _)))) | (with_reducible refine Below.drew ?_; with_reducible refine below_at ?_ _; (first | (first | exact Hid.out (by assumption) | exact Below.refl _ _) | (with_reducible refine Below.drew ?_; (first | exact Hid.out (by assumption) | exact Below.refl _ _)) | (with_reducible refine below_drewN ?_ _; (first | exact Hid.out (by assumption) | exact Below.refl _ _)))) | (with_reducible refine below_drewN ?_ _; with_reducible refine below_at ?_ _; (first | (first | exact Hid.out (by assumption) | exact Below.refl _ _) | (with_reducible refine Below.drew ?_; (first | exact Hid.out (by assumption) | exact Below.refl _ _)) | (with_reducible refine below_drewN ?_ _; (first | exact Hid.out (by assumption) | exact Below.refl _ _))))))).mono ?_; rintro e w2 ⟨a2, c2, bo, rfl, q1, q2, q3⟩
         (first | (have K2 := Lib.hid (gt_nv (B := wb.heap.size) q3 (by (first | (first | exact Hid.out (by assumption) | (with_reducible refine NV.new ?_; (first | (first | exact Hid.out (by assumption) | exact Below.refl _ _) | (with_reducible refine Below.drew ?_; (first | exact Hid.out (by assumption) | exact Below.refl _ _)) | (with_reducible refine below_drewN ?_ _; (first | exact Hid.out (by assumption) | exact Below.refl _ _))))) | (with_reducible refine NV.drew ?_; (first | exact Hid.out (by assumption) | (with_reducible refine NV.new ?_; (first | (first | exact Hid.out (by assumption) | exact Below.refl _ _) | (with_reducible refine Below.drew ?_; (first | exact Hid.out (by assumption) | exact Below.refl _ _)) | (with_reducible refine below_drewN ?_ _; (first | exact Hid.out (by assumption) | exact Below.refl _ _)))))) | (with_reducible refine NV.drewN ?_ _; (first | exact Hid.out (by assumption) | (with_reducible refine NV.new ?_; (first | (first | exact Hid.out (by assumption) | exact Below.refl _ _) | (with_reducible refine Below.drew ?_; (first | exact Hid.out (by assumption) | exact Below.refl _ _)) | (with_reducible refine below_drewN ?_ _; (first | exact Hid.out (by assumption) | exact Below.refl _ _)))))))))) | skip)
         (first | (have NVk := Lib.hid (NV.next (B := wb.heap.size) (by (first | (first | exact Hid.out (by assumption) | (with_reducible refine NV.new ?_; (first | (first | exact Hid.out (by assumption) | exact Below.refl _ _) | (with_reducible refine Below.drew ?_; (first | exact Hid.out (by assumption) | exact Below.refl _ _)) | (with_reducible refine below_drewN ?_ _; (first | exact Hid.out (by assumption) | exact Below.refl _ _))))) | (with_reducible refine NV.drew ?_; (first | exact Hid.out (by assumption) | (with_reducible refine NV.new ?_; (first | (first | exact Hid.out (by assumption) | exact Below.refl _ _) | (with_reducible refine Below.drew ?_; (first | exact Hid.out (by assumption) | exact Below.refl _ _)) | (with_reducible refine below_drewN ?_ _; (first | exact Hid.out (by assumption) | exact Below.refl _ _)))))) | (with_reducible refine NV.drewN ?_ _; (first | exact Hid.out (by assumption) | (with_reducible refine NV.new ?_; (first | (first | exact Hid.out (by assumption) | exact Below.refl _ _) | (with_reducible refine Below.drew ?_; (first | exact Hid.out (by assumption) | exact Below.refl _ _)) | (with_reducible refine below_drewN ?_ _; (first | exact Hid.out (by assumption) | exact Below.refl _ _)))))))) q2)) | skip)
         (first | (obtain ⟨k0, k1, k2, k3, k4, k5, k6, k7⟩ := NVk.out.facts) | skip)
         have hz := below_then (w := wb) (by (first | (first | (first | exact Hid.out (by assumption) | exact Below.refl _ _) | (with_reducible refine Below.drew ?_; (first | exact Hid.out (by assumption) | exact Below.refl _ _)) | (with_reducible refine below_drewN ?_ _; (first | exact Hid.out (by assumption) | exact Below.refl _ _))) | (with_reducible refine below_at ?_ _; (first | (first | exact Hid.out (by assumption) | exact Below.refl _ _) | (with_reducible refine Below.drew ?_; (first | exact Hid.out (by assumption) | exact Below.refl _ _)) | (with_reducible refine below_drewN ?_ _; (first | exact Hid.out (by assumption) | exact Below.refl _ _)))) | (with_reducible refine Below.drew ?_; with_reducible refine below_at ?_ _; (first | (first | exact Hid.out (by assumption) | exact Below.refl _ _) | (with_reducible refine Below.drew ?_; (first | exact Hid.out (by assumption) | exact Below.refl _ _)) | (with_reducible refine below_drewN ?_ _; (first | exact Hid.out (by assumption) | exact Below.refl _ _)))) | (with_reducible refine below_drewN ?_ _; with_reducible refine below_at ?_ _; (first | (first | exact Hid.out (by assumption) | exact Below.refl _ _) | (with_reducible refine Below.drew ?_; (first | exact Hid.out (by assumption) | exact Below.refl _ _)) | (with_reducible refine below_drewN ?_ _; (first | exact Hid.out (by assumption) | exact Below.refl _ _)))))) q2
         have K1 := Lib.hid (le_bo (w := wb) q3 (by (first | (first | (first | exact Hid.out (by assumption) | exact Below.refl _ _) | (with_reducible refine Below.drew ?_; (first | exact Hid.out (by assumption) | exact Below.refl _ _)) | (with_reducible refine below_drewN ?_ _; (first | exact Hid.out (by assumption) | exact Below.refl _ _))) | (with_reducible refine below_at ?_ _; (first | (first | exact Hid.out (by assumption) | exact Below.refl _ _) | (with_reducible refine Below.drew ?_; (first | exact Hid.out (by assumption) | exact Below.refl _ _)) | (with_reducible refine below_drewN ?_ _; (first | exact Hid.out (by assumption) | exact Below.refl _ _)))) | (with_reducible refine Below.drew ?_; with_reducible refine below_at ?_ _; (first | (first | exact Hid.out (by assumption) | exact Below.refl _ _) | (with_reducible refine Below.drew ?_; (first | exact Hid.out (by assumption) | exact Below.refl _ _)) | (with_reducible refine below_drewN ?_ _; (first | exact Hid.out (by assumption) | exact Below.refl _ _)))) | (with_reducible refine below_drewN ?_ _; with_reducible refine below_at ?_ _; (first | (first | exact Hid.out (by assumption) | exact Below.refl _ _) | (with_reducible refine Below.drew ?_; (first | exact Hid.out (by assumption) | exact Below.refl _ _)) | (with_reducible refine below_drewN ?_ _; (first | exact Hid.out (by assumption) | exact Below.refl _ _)))))))
         obtain ⟨f0, f1, _⟩ := hc.out w2 hz
         have B2 := Lib.hid hz
         have O2 := Lib.hid q1
         clear q1 q2 q3 hz)
      | (go_at_call 21; refine (hT1.out _ (by (first | (first | (first | exact Hid.out (by assumption) | exact Below.refl _ _) | (with_reducible refine Below.drew ?_; (first | exact Hid.out (by assumption) | exact Below.refl _ _)) | (with_reducible refine below_drewN ?_ _; (first | exact Hid.out (by assumption) | exact Below.refl _ _))) | (with_reducible refine below_at ?_ _; (first | (first | exact Hid.out (by assumption) | exact Below.refl _ _) | (with_reducible refine Below.drew ?_; (first | exact Hid.out (by assumption) | exact Below.refl _ _)) | (with_reducible refine below_drewN ?_ _; (first | exact Hid.out (by assumption) | exact Below.refl _ _)))) | (with_reducible refine Below.drew ?_; with_reducible refine below_at ?_ _; (first | (first | exact Hid.out (by assumption) | exact Below.refl _ _) | (with_reducible refine Below.drew ?_; (first | exact Hid.out (by assumption) | exact Below.refl _ _)) | (with_reducible refine below_drewN ?_ _; (first | exact Hid.out (by assumption) | exact Below.refl _ _)))) | (with_reducible refine below_drewN ?_ _; with_reducible refine below_at ?_ _; (first | (first | exact Hid.out (by assumption) | exact Below.refl _ _) | (with_reducible refine Below.drew ?_; (first | exact Hid.out (by assumption) | exact Below.refl _ _)) | (with_reducible refine below_drewN ?_ _; (first | exact Hid.out (by assumption) | exact Below.refl _ _))))))).mono ?_; rintro e w1 ⟨a1, c1, rfl, q1, q2⟩
         (first | (have NVk := Lib.hid (NV.next (NV.drew (NV.new (a := wb) R0.out)) q2)) | (have NVk := Lib.hid (NV.next (NV.new (a := wb) R0.out) q2)) | (have NVk := Lib.hid (NV.next (NV.new (a := wb) R0.out.drew) q2)) | skip)
         (first | (obtain ⟨k0, k1, k2, k3, k4, k5, k6, k7⟩ := NVk.out.facts) | skip)
         have hz := below_then (w := wb) (by (first | (first | (first | exact Hid.out (by assumption) | exact Below.refl _ _) | (with_reducible refine Below.drew ?_; (first | exact Hid.out (by assumption) | exact Below.refl _ _)) | (with_reducible refine below_drewN ?_ _; (first | exact Hid.out (by assumption) | exact Below.refl _ _))) | (with_reducible refine below_at ?_ _; (first | (first | exact Hid.out (by assumption) | exact Below.refl _ _) | (with_reducible refine Below.drew ?_; (first | exact Hid.out (by assumption) | exact Below.refl _ _)) | (with_reducible refine below_drewN ?_ _; (first | exact Hid.out (by assumption) | exact Below.refl _ _)))) | (with_reducible refine Below.drew ?_; with_reducible refine below_at ?_ _; (first | (first | exact Hid.out (by assumption) | exact Below.refl _ _) | (with_reducible refine Below.drew ?_; (first | exact Hid.out (by assumption) | exact Below.refl _ _)) | (with_reducible refine below_drewN ?_ _; (first | exact Hid.out (by assumption) | exact Below.refl _ _)))) | (with_reducible refine below_drewN ?_ _; with_reducible refine below_at ?_ _; (first | (first | exact Hid.out (by assumption) | exact Below.refl _ _) | (with_reducible refine Below.drew ?_; (first | exact Hid.out (by assumption) | exact Below.refl _ _)) | (with_reducible refine below_drewN ?_ _; (first | exact Hid.out (by assumption) | exact Below.refl _ _)))))) q2
         obtain ⟨f0, f1, _⟩ := hc.out w1 hz
         have B1 := Lib.hid hz
         obtain ⟨p1, rfl⟩ : ∃ p1, a1 = some p1 := (by
           cases a1 with
           | some p1 => exact ⟨p1, rfl⟩
           | none => have := q1.nil rfl; simp at this)
         have hTk : Hid (∀ z, Below w1.heap.size w1 z → _) := fun z hz => f_take1 z p1 c1 x y (q1.below hz)
         clear q1 q2 hz))
    all_goals
      (try simp only [Exit.then, Exit.inBlock])
      go_wp2_with fail
      go_meet
      case rel => first | exact ⟨_, _, _, _, rfl, rfl, rfl, vb_fin NVk.out B2.out O2.out K1.out K2.out⟩ | exact ⟨_, _, _, _, rfl, rfl, rfl, vb_new B2.out O2.out K1.out⟩
  case rest =>
    clear f0 f1 hl0
    obtain ⟨g, a2, c2, bo, rfl, rfl, rfl, hV⟩ := hcut
    obtain ⟨f0, f1, hN⟩ := hc.out wc hV.old
    have g0 := (cell_of_blk hV.blk 0)
    have g1 := (cell_of_blk hV.blk 1)
    have g2 := (cell_of_blk hV.blk 2)
    have g3 := (cell_of_blk hV.blk 3)
    simp only [List.size_toArray, List.getElem?_toArray, List.getElem?_cons_zero, List.getElem?_cons_succ] at g0 g1 g2 g3
    have hS3 : Sl wc a2 1 c2 [y] := sl_keep hV.own hy2.out fun _ _ => rfl
    have hT3 : Hid (∀ z, Below wc.heap.size wc z → Calls Tryd.prog 21 #[.agg #[.int .i64 1, .bool true], .slice a2 1 c2] z (slPost [255 - y] z)) := fun z hz => hT2.out z a2 c2 (hS3.below hz)
    have HN := Lib.hid hN
    have HV := Lib.hid hV.old
    have R1 := Lib.hid (Below.refl wc.heap.size wc)
    have hws := (hc.out wb R0.out).2.2.lt
    have n1 : w.heap.size ≠ w.heap.size + 1 := by omega
    have n2 : g ≠ w.heap.size + 1 := by have := hV.ge; omega
    clear hN hS3 hV
    go_wp2_with fail
    go_region_with (first
      | (go_at_call 21; refine (hT3.out _ (by (first | (first | (first | exact Hid.out (by assumption) | exact Below.refl _ _) | (with_reducible refine Below.drew ?_; (first | exact Hid.out (by assumption) | exact Below.refl _ _)) | (with_reducible refine below_drewN ?_ _; (first | exact Hid.out (by assumption) | exact Below.refl _ _))) | (with_reducible refine below_at ?_ _; (first | (first | exact Hid.out (by assumption) | exact Below.refl _ _) | (with_reducible refine Below.drew ?_; (first | exact Hid.out (by assumption) | exact Below.refl _ _)) | (with_reducible refine below_drewN ?_ _; (first | exact Hid.out (by assumption) | exact Below.refl _ _)))) | (with_reducible refine Below.drew ?_; with_reducible refine below_at ?_ _; (first | (first | exact Hid.out (by assumption) | exact Below.refl _ _) | (with_reducible refine Below.drew ?_; (first | exact Hid.out (by assumption) | exact Below.refl _ _)) | (with_reducible refine below_drewN ?_ _; (first | exact Hid.out (by assumption) | exact Below.refl _ _)))) | (with_reducible refine below_drewN ?_ _; with_reducible refine below_at ?_ _; (first | (first | exact Hid.out (by assumption) | exact Below.refl _ _) | (with_reducible refine Below.drew ?_; (first | exact Hid.out (by assumption) | exact Below.refl _ _)) | (with_reducible refine below_drewN ?_ _; (first | exact Hid.out (by assumption) | exact Below.refl _ _))))))).mono ?_; rintro e w5 ⟨a5, c5, rfl, q1, q2⟩
         have g0 := below_cells q2 rfl (show World.cell? _ ⟨g, 0, none⟩ = _ from g0)
         have g1 := below_cells q2 rfl (show World.cell? _ ⟨g, 1, none⟩ = _ from g1)
         have g2 := below_cells q2 rfl (show World.cell? _ ⟨g, 2, none⟩ = _ from g2)
         have g3 := below_cells q2 rfl (show World.cell? _ ⟨g, 3, none⟩ = _ from g3)
         have hz := below_then (w := wb) (by (first | (first | (first | exact Hid.out (by assumption) | exact Below.refl _ _) | (with_reducible refine Below.drew ?_; (first | exact Hid.out (by assumption) | exact Below.refl _ _)) | (with_reducible refine below_drewN ?_ _; (first | exact Hid.out (by assumption) | exact Below.refl _ _))) | (with_reducible refine below_at ?_ _; (first | (first | exact Hid.out (by assumption) | exact Below.refl _ _) | (with_reducible refine Below.drew ?_; (first | exact Hid.out (by assumption) | exact Below.refl _ _)) | (with_reducible refine below_drewN ?_ _; (first | exact Hid.out (by assumption) | exact Below.refl _ _)))) | (with_reducible refine Below.drew ?_; with_reducible refine below_at ?_ _; (first | (first | exact Hid.out (by assumption) | exact Below.refl _ _) | (with_reducible refine Below.drew ?_; (first | exact Hid.out (by assumption) | exact Below.refl _ _)) | (with_reducible refine below_drewN ?_ _; (first | exact Hid.out (by assumption) | exact Below.refl _ _)))) | (with_reducible refine below_drewN ?_ _; with_reducible refine below_at ?_ _; (first | (first | exact Hid.out (by assumption) | exact Below.refl _ _) | (with_reducible refine Below.drew ?_; (first | exact Hid.out (by assumption) | exact Below.refl _ _)) | (with_reducible refine below_drewN ?_ _; (first | exact Hid.out (by assumption) | exact Below.refl _ _)))))) q2
         obtain ⟨f0, f1, hN5⟩ := hc.out w5 hz
         obtain ⟨k0, k1, k2, k3, k4, k5, k6, k7⟩ := hN5.facts
         have HN5 := Lib.hid hN5
         have S5 := Lib.hid q1
         have B5 := Lib.hid hz
         clear q1 q2 hz hN5))
    all_goals
      (try simp only [Exit.then, Exit.inBlock])
      go_wp2_with fail
      have hg : w.heap.size ≤ w.heap.size + 1 := by omega
      have hb6 := hB.out.trans (B5.out.mono hB.out.size)
      exact bodyPost_ret (v := .tuple #[.agg #[.int .u64 (x : Nat), .int .i64 0, .slice none 0 0, .bool false], .slice a5 1 c5, .int .i64 0]) (results_cell_tmp2 Tryd.results17 _ _ (w.heap.size + 1) 33 _ (0, 0) _ rfl (blk_set (blk_set (blk_set (blk_set HN5.out.blk 0 _) 1 _) 2 _) 3 _) Tryd.underlying33 rfl inf_v) rfl ⟨a5, c5, rfl, HN5.out.sl _ _ _ _ S5.out, (((hb6.setCell hg _).setCell hg _).setCell hg _).setCell hg _⟩
end Go.Proofs.YtbmefmfogdjecaaDoor
/- alive of law 5. -/
namespace Go.Proofs.YtbmefmfogdjecaaDoor
open Go.RowKit
theorem put5 : putP 1 true 5 0 [] false = ([250], 0) := by decide
theorem cmp12 : cmpN 2 1 = 1 := by decide
set_option maxHeartbeats 4000000 in
set_option maxRecDepth 100000 in
theorem alive5_any {w : World} {m : Int} (hM : MaxAt w m) : Calls Tryd.prog 5 #[] w (LawPost w) := by
  obtain ⟨wb, hwb⟩ : ∃ wb, wb = w.alloc (.cells #[.int .i64 1, .bool true] 32) := ⟨_, rfl⟩
  have hB : Hid (Below w.heap.size w wb) := by rw [hwb]; exact below_al w _
  have hf : Hid (∀ z, Below wb.heap.size wb z → z.cell? ⟨w.heap.size, 0, none⟩ = some (.int .i64 1) ∧ z.cell? ⟨w.heap.size, 1, none⟩ = some (.bool true)) := fun z hz => ⟨below_cells hz rfl (by rw [hwb]; simp), below_cells hz rfl (by rw [hwb]; simp)⟩
  have hP : Hid (Calls Tryd.prog 6 #[.agg #[.int .i64 1, .bool true], .agg #[.int .u64 5, .int .i64 0, .slice none 0 0, .bool false]] wb (putS [250] 0 wb)) := by
    have := f_Put wb m (hM.below hB.out) 1 true 5 (by omega) 0 (by omega) (by omega) none 0 0 [] (Sl.none _) (by omega) false
    rw [put5] at this
    exact this
  have hT : Hid (∀ z p c, Sl z (some p) 2 c [250, 1] → Calls Tryd.prog 17 #[.agg #[.int .i64 1, .bool true], .slice (some p) 2 c] z (fun e w' => ∃ a' c', e = .returned (.tuple #[.agg #[.int .u64 5, .int .i64 0, .slice none 0 0, .bool false], .slice a' 1 c', .int .i64 0]) ∧ Sl w' a' 1 c' [1] ∧ Below z.heap.size z w')) := fun z p c h => f_Take1 z p c 5 254 h (by omega) (by omega)
  have hC : Hid (∀ z, Calls Tryd.prog 14 #[.agg #[.int .i64 1, .bool true], .agg #[.int .u64 1, .int .i64 0, .slice none 0 0, .bool false], .agg #[.int .u64 2, .int .i64 0, .slice none 0 0, .bool false]] z (fun e w' => e = .returned (.int .i64 1) ∧ Below z.heap.size z w')) := fun z => by
    have := f_cmp1 z 1 2
    rw [cmp12] at this
    exact this
  have hK : Hid (∀ z, Calls Tryd.prog 11 #[.agg #[.int .i64 0, .bool false]] z (fun e w' => e = .returned (.int .i64 9) ∧ Below z.heap.size z w')) := fun z => f_check z 0 false
  have hS : Hid (∀ z, Calls Tryd.prog 16 #[.agg #[.int .i64 1, .bool true], .agg #[.int .u64 5, .int .i64 0, .slice none 0 0, .bool false], .agg #[.int .u64 5, .int .i64 0, .slice none 0 0, .bool false]] z (fun e w' => e = .returned (.bool true) ∧ Below z.heap.size z w')) := fun z => f_same1 z 5
  have hBa : Hid (∀ z, Calls Tryd.prog 9 #[.agg #[.int .i64 1, .bool true], .agg #[.int .u64 5, .int .i64 0, .slice none 0 0, .bool false]] z (fun e w' => e = .returned (.agg #[.int .u64 5, .int .i64 0, .slice none 0 0, .bool false]) ∧ Below z.heap.size z w')) := fun z => f_bare_u z 1 (by omega) true 5 0 none 0 0 false
  have hfd : ∀ z : World, (Instr.field 33 (.agg #[.int .u64 5, .int .i64 0, .slice none 0 0, .bool false]) 0).run Tryd.prog z = .ok (.int .u64 5) z := fun _ => by kernel_rfl
  clear hM
  go_enter Tryd.func5, Tryd.ntmps5
  go_upto_region 2 with fail
  rw [← hwb]
  clear hwb
  obtain ⟨f0, f1⟩ := hf.out wb (Below.refl _ _)
  go_upto_region 3 with (go_at_call 6; go_loud (refine hP.out.mono ?_); rintro e w1 ⟨a1, c1, rfl, q1, q2⟩
                         obtain ⟨f0, f1⟩ := hf.out w1 q2
                         have S1 := Lib.hid q1
                         have B1 := Lib.hid q2
                         clear q1 q2)
  have hSl : Hid (Sl (w1.alloc (.cells #[.int .u8 250, .int .u8 1] 5)) (some ⟨w1.heap.size, 0, none⟩) 2 2 [250, 1]) := ⟨rfl, bytes_mark w1 [250, 1] (by simp) _ _, Nat.le_refl _, by simp [maxLen], fun e => by cases e⟩
  have B1a : Hid (Below wb.heap.size wb (w1.alloc (.cells #[.int .u8 250, .int .u8 1] 5))) := B1.out.alloc B1.out.size _
  have S1a : Hid (Sl (w1.alloc (.cells #[.int .u8 250, .int .u8 1] 5)) a1 1 c1 [250]) := S1.out.alloc _
  go_upto_region 4 with (go_at_call 17; go_loud (refine (hT.out _ _ _ hSl.out).mono ?_); rintro e w2 ⟨a2, c2, rfl, q1, q2⟩
                         have B2 := Lib.hid (below_then (w := wb) B1a.out q2)
                         have S2 := Lib.hid (S1a.out.below q2)
                         clear q1 q2)
  obtain ⟨p1, rfl⟩ : ∃ p1, a1 = some p1 := by
    cases a1 with
    | some p1 => exact ⟨p1, rfl⟩
    | none => have := S2.out.nil rfl; simp at this
  have hb0 : w2.cell? p1 = some (.int .u8 250) := by
    obtain ⟨p', e, h1, h2⟩ := S2.out.at_.2 0 (by simp)
    cases e
    rwa [Go.Addr.add_zero'] at h2
  obtain ⟨w3, hw3⟩ : ∃ w3, w3 = w2.alloc (.cells #[.int .u64 5, .int .i64 0, .slice none 0 0, .bool false] 33) := ⟨_, rfl⟩
  have B3 : Hid (Below wb.heap.size wb w3) := by rw [hw3]; exact B2.out.alloc B2.out.size _
  have hall : Hid (∀ z, Below w3.heap.size w3 z → (z.cell? ⟨w.heap.size, 0, none⟩ = some (.int .i64 1) ∧ z.cell? ⟨w.heap.size, 1, none⟩ = some (.bool true)) ∧ z.cell? p1 = some (.int .u8 250) ∧ z.cell? ⟨w2.heap.size, 0, none⟩ = some (.int .u64 5) ∧ z.cell? ⟨w2.heap.size, 1, none⟩ = some (.int .i64 0) ∧ z.cell? ⟨w2.heap.size, 2, none⟩ = some (.slice none 0 0) ∧ z.cell? ⟨w2.heap.size, 3, none⟩ = some (.bool false)) := fun z hz =>
    ⟨hf.out z (B3.out.trans (hz.mono B3.out.size)), below_cells hz rfl (by rw [hw3]; exact below_cells (below_al w2 _) rfl hb0), below_cells hz rfl (by rw [hw3]; simp), below_cells hz rfl (by rw [hw3]; simp), below_cells hz rfl (by rw [hw3]; simp), below_cells hz rfl (by rw [hw3]; simp)⟩
  have C3 := Lib.hid (Below.refl w3.heap.size w3)
  rw [← hw3]
  clear hw3 f0 f1 hb0 hf
  obtain ⟨⟨f0, f1⟩, b0, v0, v1, v2, v3⟩ := hall.out w3 C3.out
  go_wp2_with (first
    | (go_at_call 9; go_loud (refine (hBa.out _).mono ?_); rintro e w7 ⟨rfl, q⟩; have C7 := Lib.hid (below_then (w := w3) C6.out q); obtain ⟨⟨f0, f1⟩, b0, v0, v1, v2, v3⟩ := hall.out w7 C7.out; clear q)
    | (go_at_call 16; go_loud (refine (hS.out _).mono ?_); rintro e w6 ⟨rfl, q⟩; have C6 := Lib.hid (below_then (w := w3) C5.out q); obtain ⟨⟨f0, f1⟩, b0, v0, v1, v2, v3⟩ := hall.out w6 C6.out; clear q)
    | (go_at_call 11; go_loud (refine (hK.out _).mono ?_); rintro e w5 ⟨rfl, q⟩; have C5 := Lib.hid (below_then (w := w3) C4.out q); obtain ⟨⟨f0, f1⟩, b0, v0, v1, v2, v3⟩ := hall.out w5 C5.out; clear q)
    | (go_at_call 14; go_loud (refine (hC.out _).mono ?_); rintro e w4 ⟨rfl, q⟩; have C4 := Lib.hid (below_then (w := w3) C3.out q); obtain ⟨⟨f0, f1⟩, b0, v0, v1, v2, v3⟩ := hall.out w4 C4.out; clear q))
  go_ret
  exact ⟨rfl, hB.out.trans (((B3.out.trans (C7.out.mono B3.out.size)).mono hB.out.size))⟩
end Go.Proofs.YtbmefmfogdjecaaDoor
/- law05.same; a value's own part has the same bytes. -/
namespace Go.Proofs.YtbmefmfogdjecaaDoor
open Go.RowKit
theorem put_bare (k : Int) (fl : Bool) (u : Nat) (i : Int) (bs : List Nat) (t : Bool) : putP k fl (bareU k u) (bareI k i) (bareB k bs) (bareT k t) = putP k fl u i bs t := by
  have h : rawP k (bareU k u) (bareI k i) (bareB k bs) (bareT k t) = rawP k u i bs t := by
    have hk : k = 1 ∨ k = 2 ∨ k = 3 ∨ k = 4 ∨ k = 5 ∨ k = 6 ∨ k = 7 ∨ k = 8 ∨ k = 9 ∨ k = 10 ∨ (k < 1 ∨ 10 < k) := by omega
    rcases hk with rfl | rfl | rfl | rfl | rfl | rfl | rfl | rfl | rfl | rfl | hk
    all_goals first
      | rfl
      | (unfold rawP
         rw [if_neg (by omega), if_neg (by omega), if_neg (by omega), if_neg (by omega), if_neg (by omega), if_neg (by omega), if_neg (by omega), if_neg (by omega), if_neg (by omega), if_neg (by omega)]
         rw [if_neg (by omega), if_neg (by omega), if_neg (by omega), if_neg (by omega), if_neg (by omega), if_neg (by omega), if_neg (by omega), if_neg (by omega), if_neg (by omega), if_neg (by omega)])
  unfold putP
  rw [h]
theorem same_at (w : World) (a1 a2 : Option Addr) (c1 c2 : Nat) (L : List Nat) (h1 : Sl w a1 L.length c1 L) (h2 : Sl w a2 L.length c2 L) : Calls Tryd.prog 10 #[.slice a1 L.length c1, .slice a2 L.length c2] w (fun e w' => e = .returned (.bool true) ∧ Below w.heap.size w w') :=
  (ref_same w a1 a2 _ c1 _ c2 L L h1.at_ h2.at_ rfl rfl (Nat.le_trans h1.cap h1.capm) (Nat.le_trans h2.cap h2.capm)).mono fun e w' h => by
    obtain ⟨rfl, q, rfl⟩ := h
    exact ⟨by simp, below_drewN (Below.refl _ _) q⟩
set_option maxHeartbeats 2000000 in
set_option maxRecDepth 100000 in
theorem law_same (w : World) (u : Nat) (i : Int) (t : Bool) (a1 a2 : Option Addr) (c1 c2 : Nat) (L : List Nat) (h1 : Sl w a1 L.length c1 L) (h2 : Sl w a2 L.length c2 L) : Calls Tryd.prog 12 #[.agg #[.int .u64 (u : Nat), .int .i64 i, .slice a1 L.length c1, .bool t], .agg #[.int .u64 (u : Nat), .int .i64 i, .slice a2 L.length c2, .bool t]] w (fun e w' => e = .returned (.bool true) ∧ Below w.heap.size w w') := by
  have hB := Lib.hid (below_al2 w (.cells #[.int .u64 (u : Nat), .int .i64 i, .slice a1 L.length c1, .bool t] 33) (.cells #[.int .u64 (u : Nat), .int .i64 i, .slice a2 L.length c2, .bool t] 27))
  have hS : Hid (∀ z, Below w.heap.size w z → _) := fun z hz => same_at z a1 a2 c1 c2 L (h1.below hz) (h2.below hz)
  clear h1 h2
  generalize L.length = n at *
  cases t <;>
  · go_enter Tryd.func12, Tryd.ntmps12
    go_wp2_with (go_at_call 10; go_loud (refine (hS.out _ hB.out).mono ?_); rintro e w1 ⟨rfl, q⟩; have B1 := Lib.hid (below_then hB.out q); clear q)
    go_ret
    exact ⟨rfl, B1.out⟩
/-- a value in a box, and its bytes -/
structure VS (B : World) (w : World) (g : Nat) (u : Nat) (i : Int) (a : Option Addr) (c : Nat) (t : Bool) (L : List Nat) : Prop where
  old : Below B.heap.size B w
  blk : w.heap[g]? = some (.cells [Value.int .u64 (u : Nat), .int .i64 i, .slice a L.length c, .bool t].toArray 33 (0, 0))
  sl : Sl w a L.length c L
theorem vs_fin {B w : World} {g u : Nat} {i : Int} {a : Option Addr} {c : Nat} {t : Bool} {L : List Nat} (h : NV B.heap.size w g) (hB : Below B.heap.size B w) (hS : Sl w a L.length c L) : VS B ((((w.setCell ⟨g, 0, none⟩ (.int .u64 (u : Nat))).setCell ⟨g, 1, none⟩ (.int .i64 i)).setCell ⟨g, 2, none⟩ (.slice a L.length c)).setCell ⟨g, 3, none⟩ (.bool t)) g u i a c t L :=
  ⟨(((hB.setCell h.ge _).setCell h.ge _).setCell h.ge _).setCell h.ge _, blk_set (blk_set (blk_set (blk_set h.blk 0 _) 1 _) 2 _) 3 _, h.sl _ _ _ _ hS⟩
theorem vs_new {B w : World} {u : Nat} {i : Int} {a : Option Addr} {c : Nat} {t : Bool} {L : List Nat} (hB : Below B.heap.size B w) (hS : Sl w a L.length c L) : VS B (w.alloc (.cells #[.int .u64 (u : Nat), .int .i64 i, .slice a L.length c, .bool t] 33)) w.heap.size u i a c t L :=
  ⟨hB.alloc hB.size _, heap_alloc_new w _, hS.alloc _⟩
end Go.Proofs.YtbmefmfogdjecaaDoor
/- Arguments of rows: fields and values. -/
namespace Go.Proofs.YtbmefmfogdjecaaDoor
open Go.ChangeShapes Go.WideShapes Go.ChangeAt Go.RowKit
theorem own : ownKnob Tryd.prog.godebug = none := by kernel_rfl
theorem laidOut : laidOutB Tryd.prog = true := by kernel_rfl
theorem maxAt_of {w : World} (h : w.ShapedOpen Tryd.prog) : ∃ m, MaxAt w m :=
  cell_of_shapedOpen_int (P := Tryd.prog) (g := 0) (t := 3) (zero := #[.int .i64 0]) h (of_decide_eq_true (by kernel_rfl)) (by kernel_rfl) rfl (by kernel_rfl) (by kernel_rfl) Tryd.underlying3
section
variable {H : Type} {enc : TypeId × Value → H} {w : World} {base : Nat} {held : Bool}
/-- a slice of bytes that came in, by its cell -/
theorem open_slc {v : Value} {fuel : Nat} {x : DataW H × List MemPlace} (h : DataW.trod enc Tryd.prog w base (fun _ => true) held fuel 25 [v] = some x) :
    ∃ a n c bs, v = .slice a n c ∧ Sl w a n c bs := by
  rcases open_ints Tryd.underlying25 Tryd.underlying5 (by kernel_rfl) h with ⟨e, _⟩ | ⟨a, l, c, zs, e, _, hl, hm, hlen, _, hcell, hw⟩
  · obtain rfl : v = .slice none 0 0 := by simpa using e
    exact ⟨none, 0, 0, [], rfl, Sl.none w⟩
  · obtain rfl : v = .slice (some a) l c := by simpa using e
    have hlen' : zs.length = c := by simpa using hlen
    refine ⟨some a, l, c, (zs.take l).map Int.toNat, rfl, by simp; omega, ⟨?_, ?_⟩, hl, hm, fun e => by cases e⟩
    · intro y hy
      obtain ⟨n, hn, rfl⟩ := List.mem_map.1 hy
      have := wf_u8 (hw n (List.mem_of_mem_take hn))
      omega
    · intro i hi
      have hi' : i < l := by simp at hi; omega
      have hz : i < zs.length := by omega
      have hc := hcell i hz
      have hn := wf_u8 (hw zs[i] (List.getElem_mem _))
      have e : zs.getD i 0 = ((((zs.take l).map Int.toNat).getD i 0 : Nat) : Int) := by
        simp [List.getD, List.getElem?_take, hi', hz]
        omega
      refine ⟨a, rfl, cell_lt hc, ?_⟩
      rw [hc, e]
set_option maxRecDepth 100000 in
theorem open_sl {v : Value} {d : DataW H} {ps : List MemPlace} (h : DataW.Trod enc Tryd.prog w base (fun _ => true) held 25 v d ps) (hv : Value.okWide Tryd.prog w .any base 25 v) :
    ∃ a n c bs, v = .slice a n c ∧ Sl w a n c bs := by
  obtain ⟨a0, n0, c0, rfl⟩ := okWide_slice Tryd.underlying25 hv
  obtain ⟨fuel, h⟩ := h
  exact open_slc (x := (d, ps)) (show DataW.trod enc Tryd.prog w base (fun _ => true) held fuel 25 [.slice a0 n0 c0] = some (d, ps) from h)
set_option maxRecDepth 100000 in
theorem open_field {v : Value} {d : DataW H} {ps : List MemPlace} (h : DataW.Trod enc Tryd.prog w base (fun _ => true) held 23 v d ps) (hv : Value.okWide Tryd.prog w .any base 23 v) :
    ∃ k fl, v = .agg #[.int .i64 k, .bool fl] := by
  obtain ⟨v0, v1, y0, y1, n, rfl, _, _, t0, t1⟩ := Joins.open_agg2 Tryd.underlying23 (by kernel_rfl) (by kernel_rfl) hv h
  obtain ⟨k, e0, _, w0⟩ := DataW.trod_int Tryd.underlying3 t0
  obtain ⟨o, e1, _⟩ := DataW.trod_bool Tryd.underlying4 t1
  obtain rfl : v0 = .int .i64 k := by simpa using e0
  obtain rfl : v1 = .bool o := by simpa using e1
  exact ⟨k, o, rfl⟩
set_option maxRecDepth 100000 in
theorem open_value {v : Value} {d : DataW H} {ps : List MemPlace} (h : DataW.Trod enc Tryd.prog w base (fun _ => true) held 27 v d ps) (hv : Value.okWide Tryd.prog w .any base 27 v) :
    ∃ (u : Nat) (i : Int) (a : Option Addr) (n c : Nat) (bs : List Nat) (t : Bool), v = .agg #[.int .u64 (u : Nat), .int .i64 i, .slice a n c, .bool t] ∧ u < 18446744073709551616 ∧ -9223372036854775808 ≤ i ∧ i ≤ 9223372036854775807 ∧ Sl w a n c bs := by
  obtain ⟨v0, v1, v2, v3, y0, y1, y2, y3, n, rfl, _, _, t0, t1, t2, t3⟩ := Joins.open_agg4 Tryd.underlying27 (by kernel_rfl) (by kernel_rfl) hv h
  obtain ⟨z0, e0, _, w0⟩ := DataW.trod_int Tryd.underlying24 t0
  obtain ⟨z1, e1, _, w1⟩ := DataW.trod_int Tryd.underlying2 t1
  obtain ⟨a, m, c, bs, rfl, s⟩ := open_slc t2
  obtain ⟨o, e3, _⟩ := DataW.trod_bool Tryd.underlying4 t3
  obtain rfl : v0 = .int .u64 z0 := by simpa using e0
  obtain rfl : v1 = .int .i64 z1 := by simpa using e1
  obtain rfl : v3 = .bool o := by simpa using e3
  have h0 := wf_u64 w0
  have h1 := wf_i64 w1
  obtain ⟨u, rfl⟩ : ∃ u : Nat, z0 = (u : Int) := ⟨z0.toNat, by omega⟩
  exact ⟨u, z1, a, m, c, bs, o, rfl, by omega, h1.1, h1.2, s⟩
end
end Go.Proofs.YtbmefmfogdjecaaDoor
/- The law FieldPuts. -/
namespace Go.Proofs.YtbmefmfogdjecaaDoor
open Go.RowKit
set_option maxHeartbeats 40000000 in
set_option maxRecDepth 100000 in
theorem FieldPuts_any {w : World} {m : Int} (hM : MaxAt w m) (k : Int) (fl : Bool) (u : Nat) (hu : u < 18446744073709551616) (i : Int) (hi1 : -9223372036854775808 ≤ i) (hi2 : i ≤ 9223372036854775807) (a : Option Addr) (n c : Nat) (bs : List Nat) (hS : Sl w a n c bs) (t : Bool) :
    Calls Tryd.prog 3 #[.agg #[.int .i64 k, .bool fl], .agg #[.int .u64 (u : Nat), .int .i64 i, .slice a n c, .bool t]] w (LawPost w) := by
  obtain ⟨wb, hwb⟩ : ∃ wb, wb = (w.alloc (.cells #[.int .i64 k, .bool fl] 23)).alloc (.cells #[.int .u64 (u : Nat), .int .i64 i, .slice a n c, .bool t] 27) := ⟨_, rfl⟩
  have hB : Hid (Below w.heap.size w wb) := by rw [hwb]; exact below_al2 w _ _
  have hall : Hid (∀ z, Below wb.heap.size wb z → z.cell? ⟨w.heap.size, 0, none⟩ = some (.int .i64 k) ∧ z.cell? ⟨w.heap.size, 1, none⟩ = some (.bool fl) ∧ z.cell? ⟨w.heap.size + 1, 0, none⟩ = some (.int .u64 (u : Nat)) ∧ z.cell? ⟨w.heap.size + 1, 1, none⟩ = some (.int .i64 i) ∧ z.cell? ⟨w.heap.size + 1, 2, none⟩ = some (.slice a n c) ∧ z.cell? ⟨w.heap.size + 1, 3, none⟩ = some (.bool t)) := fun z hz =>
    ⟨below_cells hz rfl (by rw [hwb]; simp), below_cells hz rfl (by rw [hwb]; simp), below_cells hz rfl (by rw [hwb]; simp), below_cells hz rfl (by rw [hwb]; simp), below_cells hz rfl (by rw [hwb]; simp), below_cells hz rfl (by rw [hwb]; simp)⟩
  have hAl : Hid (∀ z, Below wb.heap.size wb z → Calls Tryd.prog 5 #[] z (LawPost z)) := fun z hz => alive5_any (hM.below (hB.out.trans (hz.mono hB.out.size)))
  have R0 := Lib.hid (Below.refl wb.heap.size wb)
  obtain ⟨f0, f1, v0, v1, v2, v3⟩ := hall.out wb R0.out
  by_cases hn : 500 < n
  · have hn2 : (500 : Int) < (n : Int) := by omega
    clear hn
    go_enter Tryd.func3, Tryd.ntmps3
    go_upto_region 1 with fail
    rw [← hwb]
    clear hwb
    go_wp2_with (go_at_call 5; go_loud (refine (hAl.out _ R0.out).mono ?_); rintro e w1 ⟨rfl, q⟩; have B1 := Lib.hid q; clear q)
    go_ret
    exact ⟨rfl, hB.out.trans (B1.out.mono hB.out.size)⟩
  · have hn2 : ¬ (500 : Int) < (n : Int) := by omega
    have hn5 : n ≤ 500 := by omega
    have hTh : Hid (∀ z, Calls Tryd.prog 7 #[.agg #[.int .u64 (u : Nat), .int .i64 i, .slice a n c, .bool t]] z (fun e w' => e = .returned (.agg #[.int .u64 (u : Nat), .int .i64 i, .slice a n c, .bool t]) ∧ Below z.heap.size z w')) := fun z => law_theirs z u i a n c t
    have hSz : ∀ z, Below wb.heap.size wb z → Sl z a n c bs := fun z hz => hS.below (hB.out.trans (hz.mono hB.out.size))
    have hMz : ∀ z, Below wb.heap.size wb z → MaxAt z m := fun z hz => hM.below (hB.out.trans (hz.mono hB.out.size))
    obtain ⟨PP, hPP⟩ : ∃ PP, PP = putP k fl u i bs t := ⟨_, rfl⟩
    have hPu : Hid (∀ z, Below wb.heap.size wb z → Calls Tryd.prog 6 #[.agg #[.int .i64 k, .bool fl], .agg #[.int .u64 (u : Nat), .int .i64 i, .slice a n c, .bool t]] z (putS PP.1 PP.2 z)) := fun z hz => by rw [hPP]; exact f_Put z m (hMz z hz) k fl u hu i hi1 hi2 a n c bs (hSz z hz) hn5 t
    have hPd : Hid (∀ z, Below wb.heap.size wb z → Calls Tryd.prog 8 #[.agg #[.int .i64 k, .bool fl], .agg #[.int .u64 (u : Nat), .int .i64 i, .slice a n c, .bool t]] z (putS PP.1 PP.2 z)) := fun z hz => by rw [hPP]; exact doc_Put z k fl u hu i hi1 hi2 a n c bs (hSz z hz) hn5 t
    obtain ⟨U, hU⟩ : ∃ U, U = bareU k u := ⟨_, rfl⟩
    obtain ⟨I, hI⟩ : ∃ I, I = bareI k i := ⟨_, rfl⟩
    obtain ⟨T, hT⟩ : ∃ T, T = bareT k t := ⟨_, rfl⟩
    obtain ⟨L, hL⟩ : ∃ L, L = bareB k bs := ⟨_, rfl⟩
    have hBf : Hid (∀ z, Below wb.heap.size wb z → Calls Tryd.prog 9 #[.agg #[.int .i64 k, .bool fl], .agg #[.int .u64 (u : Nat), .int .i64 i, .slice a n c, .bool t]] z (fun e w' => ∃ a c, e = .returned (.agg #[.int .u64 (U : Nat), .int .i64 I, .slice a L.length c, .bool T]) ∧ Sl w' a L.length c L ∧ Below z.heap.size z w')) := fun z hz => by rw [hU, hI, hT, hL]; exact f_Bare z k fl u i a n c bs (hSz z hz) hn5 t
    have hBd : Hid (∀ z, Below wb.heap.size wb z → Calls Tryd.prog 13 #[.agg #[.int .i64 k, .bool fl], .agg #[.int .u64 (u : Nat), .int .i64 i, .slice a n c, .bool t]] z (fun e w' => ∃ a c, e = .returned (.agg #[.int .u64 (U : Nat), .int .i64 I, .slice a L.length c, .bool T]) ∧ Sl w' a L.length c L ∧ Below z.heap.size z w')) := fun z hz => by rw [hU, hI, hT, hL]; exact doc_Bare z k fl u i a n c bs (hSz z hz) hn5 t
    have hU2 : U < 18446744073709551616 := by rw [hU]; unfold bareU; split <;> omega
    have hI1 : -9223372036854775808 ≤ I := by rw [hI]; unfold bareI; split <;> omega
    have hI2 : I ≤ 9223372036854775807 := by rw [hI]; unfold bareI; split <;> omega
    have hL5 : L.length ≤ 500 := by
      rw [hL]; unfold bareB
      split
      · rw [hS.len]; exact hn5
      · simp
    have hPb : Hid (∀ z a c, Below wb.heap.size wb z → Sl z a L.length c L → Calls Tryd.prog 6 #[.agg #[.int .i64 k, .bool fl], .agg #[.int .u64 (U : Nat), .int .i64 I, .slice a L.length c, .bool T]] z (putS PP.1 PP.2 z)) := fun z a c hz hs => by
      have := f_Put z m (hMz z hz) k fl U hU2 I hI1 hI2 a L.length c L hs hL5 T
      rwa [hU, hI, hT, hL, put_bare, ← hU, ← hI, ← hT, ← hL, ← hPP] at this
    have hCk : Hid (∀ z, Calls Tryd.prog 11 #[.agg #[.int .i64 k, .bool fl]] z (fun e w' => e = .returned (.int .i64 (if 1 ≤ k ∧ k ≤ 10 then 0 else 9)) ∧ Below z.heap.size z w')) := fun z => f_check z k fl
    have HL5 := Lib.hid hL5
    clear hPP hU hI hT hL hU2 hI1 hI2 hL5 hSz hMz hn hn5 hM hS hu hi1 hi2
    obtain ⟨R, r⟩ := PP
    dsimp only at hPu hPd hPb
    have hRl : Hid True := trivial
    go_enter Tryd.func3, Tryd.ntmps3
    go_upto_region 1 with fail
    rw [← hwb]
    clear hwb
    go_upto_region 3 with fail
    go_region_held3 (fun w' => w'.cell? ⟨w.heap.size, 0, none⟩ = some (.int .i64 k) ∧ w'.cell? ⟨w.heap.size, 1, none⟩ = some (.bool fl) ∧ w'.cell? ⟨w.heap.size + 1, 0, none⟩ = some (.int .u64 (u : Nat)) ∧ w'.cell? ⟨w.heap.size + 1, 1, none⟩ = some (.int .i64 i) ∧ w'.cell? ⟨w.heap.size + 1, 2, none⟩ = some (.slice a n c) ∧ w'.cell? ⟨w.heap.size + 1, 3, none⟩ = some (.bool t)) (first | go_keep)
      (first
      | (have g0 := B1; go_at_call 6; refine (hPu.out _ (by (first | (first | (first | exact Hid.out (by assumption) | exact Below.refl _ _) | (with_reducible refine Below.drew ?_; (first | exact Hid.out (by assumption) | exact Below.refl _ _)) | (with_reducible refine below_drewN ?_ _; (first | exact Hid.out (by assumption) | exact Below.refl _ _))) | (with_reducible refine below_at ?_ _; (first | (first | exact Hid.out (by assumption) | exact Below.refl _ _) | (with_reducible refine Below.drew ?_; (first | exact Hid.out (by assumption) | exact Below.refl _ _)) | (with_reducible refine below_drewN ?_ _; (first | exact Hid.out (by assumption) | exact Below.refl _ _)))) | (with_reducible refine Below.drew ?_; with_reducible refine below_at ?_ _; (first | (first | exact Hid.out (by assumption) | exact Below.refl _ _) | (with_reducible refine Below.drew ?_; (first | exact Hid.out (by assumption) | exact Below.refl _ _)) | (with_reducible refine below_drewN ?_ _; (first | exact Hid.out (by assumption) | exact Below.refl _ _)))) | (with_reducible refine below_drewN ?_ _; with_reducible refine below_at ?_ _; (first | (first | exact Hid.out (by assumption) | exact Below.refl _ _) | (with_reducible refine Below.drew ?_; (first | exact Hid.out (by assumption) | exact Below.refl _ _)) | (with_reducible refine below_drewN ?_ _; (first | exact Hid.out (by assumption) | exact Below.refl _ _))))))).mono ?_; rintro e w2 ⟨a1, c1, rfl, s, q⟩
         have B2 := Lib.hid (below_then (w := wb) (by (first | (first | (first | exact Hid.out (by assumption) | exact Below.refl _ _) | (with_reducible refine Below.drew ?_; (first | exact Hid.out (by assumption) | exact Below.refl _ _)) | (with_reducible refine below_drewN ?_ _; (first | exact Hid.out (by assumption) | exact Below.refl _ _))) | (with_reducible refine below_at ?_ _; (first | (first | exact Hid.out (by assumption) | exact Below.refl _ _) | (with_reducible refine Below.drew ?_; (first | exact Hid.out (by assumption) | exact Below.refl _ _)) | (with_reducible refine below_drewN ?_ _; (first | exact Hid.out (by assumption) | exact Below.refl _ _)))) | (with_reducible refine Below.drew ?_; with_reducible refine below_at ?_ _; (first | (first | exact Hid.out (by assumption) | exact Below.refl _ _) | (with_reducible refine Below.drew ?_; (first | exact Hid.out (by assumption) | exact Below.refl _ _)) | (with_reducible refine below_drewN ?_ _; (first | exact Hid.out (by assumption) | exact Below.refl _ _)))) | (with_reducible refine below_drewN ?_ _; with_reducible refine below_at ?_ _; (first | (first | exact Hid.out (by assumption) | exact Below.refl _ _) | (with_reducible refine Below.drew ?_; (first | exact Hid.out (by assumption) | exact Below.refl _ _)) | (with_reducible refine below_drewN ?_ _; (first | exact Hid.out (by assumption) | exact Below.refl _ _)))))) q)
         have S1 := Lib.hid s
         obtain ⟨f0, f1, v0, v1, v2, v3⟩ := hall.out w2 B2.out
         clear q s)
      | (go_at_call 7; refine (hTh.out _).mono ?_; rintro e w1 ⟨rfl, q⟩
         have B1 := Lib.hid (below_then (w := wb) (by (first | (first | (first | exact Hid.out (by assumption) | exact Below.refl _ _) | (with_reducible refine Below.drew ?_; (first | exact Hid.out (by assumption) | exact Below.refl _ _)) | (with_reducible refine below_drewN ?_ _; (first | exact Hid.out (by assumption) | exact Below.refl _ _))) | (with_reducible refine below_at ?_ _; (first | (first | exact Hid.out (by assumption) | exact Below.refl _ _) | (with_reducible refine Below.drew ?_; (first | exact Hid.out (by assumption) | exact Below.refl _ _)) | (with_reducible refine below_drewN ?_ _; (first | exact Hid.out (by assumption) | exact Below.refl _ _)))) | (with_reducible refine Below.drew ?_; with_reducible refine below_at ?_ _; (first | (first | exact Hid.out (by assumption) | exact Below.refl _ _) | (with_reducible refine Below.drew ?_; (first | exact Hid.out (by assumption) | exact Below.refl _ _)) | (with_reducible refine below_drewN ?_ _; (first | exact Hid.out (by assumption) | exact Below.refl _ _)))) | (with_reducible refine below_drewN ?_ _; with_reducible refine below_at ?_ _; (first | (first | exact Hid.out (by assumption) | exact Below.refl _ _) | (with_reducible refine Below.drew ?_; (first | exact Hid.out (by assumption) | exact Below.refl _ _)) | (with_reducible refine below_drewN ?_ _; (first | exact Hid.out (by assumption) | exact Below.refl _ _)))))) q)
         obtain ⟨f0, f1, v0, v1, v2, v3⟩ := hall.out w1 B1.out
         clear q))
    (try simp only [Exit.then, Exit.inBlock])
    go_upto_region 5 with (go_at_call 8; go_loud (refine (hPd.out _ B2.out).mono ?_); rintro e w3 ⟨a2, c2, rfl, s, q⟩
                           have S1b := Lib.hid (S1.out.below q)
                           have B3 := Lib.hid (below_then (w := wb) B2.out q)
                           have S2 := Lib.hid s
                           clear q s)
    clear f0 f1 v0 v1 v2 v3
    have hal3 : Hid (∀ z, Below w3.heap.size w3 z → z.cell? ⟨w.heap.size, 0, none⟩ = some (.int .i64 k) ∧ z.cell? ⟨w.heap.size, 1, none⟩ = some (.bool fl) ∧ z.cell? ⟨w.heap.size + 1, 0, none⟩ = some (.int .u64 (u : Nat)) ∧ z.cell? ⟨w.heap.size + 1, 1, none⟩ = some (.int .i64 i) ∧ z.cell? ⟨w.heap.size + 1, 2, none⟩ = some (.slice a n c) ∧ z.cell? ⟨w.heap.size + 1, 3, none⟩ = some (.bool t)) := fun z hz => hall.out z (B3.out.trans (hz.mono B3.out.size))
    have hBf3 := Lib.hid (fun z (hz : Below w3.heap.size w3 z) => hBf.out z (B3.out.trans (hz.mono B3.out.size)))
    obtain ⟨f0, f1, v0, v1, v2, v3⟩ := hal3.out w3 (Below.refl _ _)
    have C0 := Lib.hid (Below.refl w3.heap.size w3)
    have hl0 := cell_lt f0
    have hl1 := cell_lt v0
    dsimp only at hl0 hl1
    clear B1 B2 S1 R0 g0
    go_cut [9] from 30 to 33 (fun s9 w' => ∃ g a4 c4, s9 = .pointer (some ⟨g, 0, none⟩) ∧ VS w3 w' g U I a4 c4 T L)
    case first =>
      go_region_held3 (fun w' => w'.cell? ⟨w.heap.size, 0, none⟩ = some (.int .i64 k) ∧ w'.cell? ⟨w.heap.size, 1, none⟩ = some (.bool fl) ∧ w'.cell? ⟨w.heap.size + 1, 0, none⟩ = some (.int .u64 (u : Nat)) ∧ w'.cell? ⟨w.heap.size + 1, 1, none⟩ = some (.int .i64 i) ∧ w'.cell? ⟨w.heap.size + 1, 2, none⟩ = some (.slice a n c) ∧ w'.cell? ⟨w.heap.size + 1, 3, none⟩ = some (.bool t)) (first | go_keep | exact ⟨NVk.out.keep hl0 f0 _ _ _ _, NVk.out.keep hl0 f1 _ _ _ _, NVk.out.keep hl1 v0 _ _ _ _, NVk.out.keep hl1 v1 _ _ _ _, NVk.out.keep hl1 v2 _ _ _ _, NVk.out.keep hl1 v3 _ _ _ _⟩)
        (first
        | (have g0 := D1; go_at_call 9; refine (hBf3.out _ (by (first | (first | (first | exact Hid.out (by assumption) | exact Below.refl _ _) | (with_reducible refine Below.drew ?_; (first | exact Hid.out (by assumption) | exact Below.refl _ _)) | (with_reducible refine below_drewN ?_ _; (first | exact Hid.out (by assumption) | exact Below.refl _ _))) | (with_reducible refine below_at ?_ _; (first | (first | exact Hid.out (by assumption) | exact Below.refl _ _) | (with_reducible refine Below.drew ?_; (first | exact Hid.out (by assumption) | exact Below.refl _ _)) | (with_reducible refine below_drewN ?_ _; (first | exact Hid.out (by assumption) | exact Below.refl _ _)))) | (with_reducible refine Below.drew ?_; with_reducible refine below_at ?_ _; (first | (first | exact Hid.out (by assumption) | exact Below.refl _ _) | (with_reducible refine Below.drew ?_; (first | exact Hid.out (by assumption) | exact Below.refl _ _)) | (with_reducible refine below_drewN ?_ _; (first | exact Hid.out (by assumption) | exact Below.refl _ _)))) | (with_reducible refine below_drewN ?_ _; with_reducible refine below_at ?_ _; (first | (first | exact Hid.out (by assumption) | exact Below.refl _ _) | (with_reducible refine Below.drew ?_; (first | exact Hid.out (by assumption) | exact Below.refl _ _)) | (with_reducible refine below_drewN ?_ _; (first | exact Hid.out (by assumption) | exact Below.refl _ _))))))).mono ?_; rintro e w5 ⟨a4, c4, rfl, s, q⟩
           (first | (have NVk := Lib.hid (NV.next (B := w3.heap.size) (by (first | (first | exact Hid.out (by assumption) | (with_reducible refine NV.new ?_; (first | (first | exact Hid.out (by assumption) | exact Below.refl _ _) | (with_reducible refine Below.drew ?_; (first | exact Hid.out (by assumption) | exact Below.refl _ _)) | (with_reducible refine below_drewN ?_ _; (first | exact Hid.out (by assumption) | exact Below.refl _ _))))) | (with_reducible refine NV.drew ?_; (first | exact Hid.out (by assumption) | (with_reducible refine NV.new ?_; (first | (first | exact Hid.out (by assumption) | exact Below.refl _ _) | (with_reducible refine Below.drew ?_; (first | exact Hid.out (by assumption) | exact Below.refl _ _)) | (with_reducible refine below_drewN ?_ _; (first | exact Hid.out (by assumption) | exact Below.refl _ _)))))) | (with_reducible refine NV.drewN ?_ _; (first | exact Hid.out (by assumption) | (with_reducible refine NV.new ?_; (first | (first | exact Hid.out (by assumption) | exact Below.refl _ _) | (with_reducible refine Below.drew ?_; (first | exact Hid.out (by assumption) | exact Below.refl _ _)) | (with_reducible refine below_drewN ?_ _; (first | exact Hid.out (by assumption) | exact Below.refl _ _)))))))) q)) | skip)
           (first | (obtain ⟨k0, k1, k2, k3, k4, k5, k6, k7⟩ := NVk.out.facts) | skip)
           have D2 := Lib.hid (below_then (w := w3) (by (first | (first | (first | exact Hid.out (by assumption) | exact Below.refl _ _) | (with_reducible refine Below.drew ?_; (first | exact Hid.out (by assumption) | exact Below.refl _ _)) | (with_reducible refine below_drewN ?_ _; (first | exact Hid.out (by assumption) | exact Below.refl _ _))) | (with_reducible refine below_at ?_ _; (first | (first | exact Hid.out (by assumption) | exact Below.refl _ _) | (with_reducible refine Below.drew ?_; (first | exact Hid.out (by assumption) | exact Below.refl _ _)) | (with_reducible refine below_drewN ?_ _; (first | exact Hid.out (by assumption) | exact Below.refl _ _)))) | (with_reducible refine Below.drew ?_; with_reducible refine below_at ?_ _; (first | (first | exact Hid.out (by assumption) | exact Below.refl _ _) | (with_reducible refine Below.drew ?_; (first | exact Hid.out (by assumption) | exact Below.refl _ _)) | (with_reducible refine below_drewN ?_ _; (first | exact Hid.out (by assumption) | exact Below.refl _ _)))) | (with_reducible refine below_drewN ?_ _; with_reducible refine below_at ?_ _; (first | (first | exact Hid.out (by assumption) | exact Below.refl _ _) | (with_reducible refine Below.drew ?_; (first | exact Hid.out (by assumption) | exact Below.refl _ _)) | (with_reducible refine below_drewN ?_ _; (first | exact Hid.out (by assumption) | exact Below.refl _ _)))))) q)
           have S4 := Lib.hid s
           obtain ⟨f0, f1, v0, v1, v2, v3⟩ := hal3.out w5 D2.out
           clear q s)
        | (go_at_call 7; refine (hTh.out _).mono ?_; rintro e w4 ⟨rfl, q⟩
           (first | (have NVk := Lib.hid (NV.next (NV.drew (NV.new (a := w3) C0.out)) q)) | (have NVk := Lib.hid (NV.next (NV.new (a := w3) C0.out) q)) | (have NVk := Lib.hid (NV.next (NV.new (a := w3) C0.out.drew) q)) | skip)
           (first | (obtain ⟨k0, k1, k2, k3, k4, k5, k6, k7⟩ := NVk.out.facts) | skip)
           have D1 := Lib.hid (below_then (w := w3) (by (first | (first | (first | exact Hid.out (by assumption) | exact Below.refl _ _) | (with_reducible refine Below.drew ?_; (first | exact Hid.out (by assumption) | exact Below.refl _ _)) | (with_reducible refine below_drewN ?_ _; (first | exact Hid.out (by assumption) | exact Below.refl _ _))) | (with_reducible refine below_at ?_ _; (first | (first | exact Hid.out (by assumption) | exact Below.refl _ _) | (with_reducible refine Below.drew ?_; (first | exact Hid.out (by assumption) | exact Below.refl _ _)) | (with_reducible refine below_drewN ?_ _; (first | exact Hid.out (by assumption) | exact Below.refl _ _)))) | (with_reducible refine Below.drew ?_; with_reducible refine below_at ?_ _; (first | (first | exact Hid.out (by assumption) | exact Below.refl _ _) | (with_reducible refine Below.drew ?_; (first | exact Hid.out (by assumption) | exact Below.refl _ _)) | (with_reducible refine below_drewN ?_ _; (first | exact Hid.out (by assumption) | exact Below.refl _ _)))) | (with_reducible refine below_drewN ?_ _; with_reducible refine below_at ?_ _; (first | (first | exact Hid.out (by assumption) | exact Below.refl _ _) | (with_reducible refine Below.drew ?_; (first | exact Hid.out (by assumption) | exact Below.refl _ _)) | (with_reducible refine below_drewN ?_ _; (first | exact Hid.out (by assumption) | exact Below.refl _ _)))))) q)
           obtain ⟨f0, f1, v0, v1, v2, v3⟩ := hal3.out w4 D1.out
           clear q))
      all_goals
        (try simp only [Exit.then, Exit.inBlock])
        go_wp2_with fail
        go_meet
        case rel => first | exact ⟨_, _, _, rfl, vs_fin NVk.out D2.out S4.out⟩ | exact ⟨_, _, _, rfl, vs_new D2.out S4.out⟩
    case rest =>
      clear f0 f1 v0 v1 v2 v3 C0 hl0 hl1
      obtain ⟨g, a4, c4, rfl, hV⟩ := hcut
      have y0 := (cell_of_blk hV.blk 0)
      have y1 := (cell_of_blk hV.blk 1)
      have y2 := (cell_of_blk hV.blk 2)
      have y3 := (cell_of_blk hV.blk 3)
      simp only [List.size_toArray, List.getElem?_toArray, List.getElem?_cons_zero, List.getElem?_cons_succ] at y0 y1 y2 y3
      obtain ⟨f0, f1, v0, v1, v2, v3⟩ := hal3.out wc hV.old
      have hPb3 : Hid (Calls Tryd.prog 6 #[.agg #[.int .i64 k, .bool fl], .agg #[.int .u64 (U : Nat), .int .i64 I, .slice a4 L.length c4, .bool T]] wc (putS R r wc)) := hPb.out wc a4 c4 (B3.out.trans (hV.old.mono B3.out.size)) hV.sl
      have HV := Lib.hid hV
      have Y0 := Lib.hid y0
      have Y1 := Lib.hid y1
      have Y2 := Lib.hid y2
      have Y3 := Lib.hid y3
      clear hV
      go_upto_region 7 with (go_at_call 6; go_loud (refine hPb3.out.mono ?_); rintro e w6 ⟨a6, c6, rfl, s, q⟩
                             have Q6 := Lib.hid q
                             have S6 := Lib.hid s
                             clear q s)
      have B6 : Hid (Below wb.heap.size wb w6) := B3.out.trans ((HV.out.old.trans (Q6.out.mono HV.out.old.size)).mono B3.out.size)
      have D6 : Hid (Below w3.heap.size w3 w6) := HV.out.old.trans (Q6.out.mono HV.out.old.size)
      have hal6 : Hid (∀ z, Below w6.heap.size w6 z → (z.cell? ⟨w.heap.size, 0, none⟩ = some (.int .i64 k) ∧ z.cell? ⟨w.heap.size, 1, none⟩ = some (.bool fl) ∧ z.cell? ⟨w.heap.size + 1, 0, none⟩ = some (.int .u64 (u : Nat)) ∧ z.cell? ⟨w.heap.size + 1, 1, none⟩ = some (.int .i64 i) ∧ z.cell? ⟨w.heap.size + 1, 2, none⟩ = some (.slice a n c) ∧ z.cell? ⟨w.heap.size + 1, 3, none⟩ = some (.bool t)) ∧ z.cell? ⟨g, 0, none⟩ = some (.int .u64 (U : Nat)) ∧ z.cell? ⟨g, 1, none⟩ = some (.int .i64 I) ∧ z.cell? ⟨g, 2, none⟩ = some (.slice a4 L.length c4) ∧ z.cell? ⟨g, 3, none⟩ = some (.bool T)) := fun z hz =>
        ⟨hall.out z (B6.out.trans (hz.mono B6.out.size)), below_cells hz rfl (below_cells Q6.out rfl Y0.out), below_cells hz rfl (below_cells Q6.out rfl Y1.out), below_cells hz rfl (below_cells Q6.out rfl Y2.out), below_cells hz rfl (below_cells Q6.out rfl Y3.out)⟩
      have hS1 : Hid (∀ z, Below w6.heap.size w6 z → _) := fun z hz => same_at z a1 a2 c1 c2 R ((S1b.out.below D6.out).below hz) ((S2.out.below D6.out).below hz)
      have hS2 : Hid (∀ z, Below w6.heap.size w6 z → _) := fun z hz => same_at z a6 a2 c6 c2 R (S6.out.below hz) ((S2.out.below D6.out).below hz)
      have hS3 : Hid (∀ z a7 c7, Below w6.heap.size w6 z → Sl z a7 L.length c7 L → _) := fun z a7 c7 hz hs => law_same z U I T a4 a7 c4 c7 L ((HV.out.sl.below Q6.out).below hz) hs
      have hBd6 := Lib.hid (fun z (hz : Below w6.heap.size w6 z) => hBd.out z (B6.out.trans (hz.mono B6.out.size)))
      have hAl6 := Lib.hid (fun z (hz : Below w6.heap.size w6 z) => hAl.out z (B6.out.trans (hz.mono B6.out.size)))
      have HB6 : Hid (Below w.heap.size w w6) := hB.out.trans (B6.out.mono hB.out.size)
      have E0 := Lib.hid (Below.refl w6.heap.size w6)
      clear y0 y1 y2 y3 f0 f1 v0 v1 v2 v3 Y0 Y1 Y2 Y3 B6 D6 B3 HV Q6 hBd hAl hPb hPb3 hPu hPd hTh hBf hBf3 hall hal3 S1b S2 S6 hB
      obtain ⟨⟨f0, f1, v0, v1, v2, v3⟩, y0, y1, y2, y3⟩ := hal6.out w6 E0.out
      have hk : (k < 1) ∨ (1 ≤ k ∧ k ≤ 10) ∨ (10 < k) := by omega
      have hCk2 : Hid (∃ ck : Int, (ck = if 1 ≤ k ∧ k ≤ 10 then 0 else 9) ∧ ∀ z, Calls Tryd.prog 11 #[.agg #[.int .i64 k, .bool fl]] z (fun e w' => e = .returned (.int .i64 ck) ∧ Below z.heap.size z w')) := ⟨_, rfl, fun z => hCk.out z⟩
      clear hCk
      obtain ⟨ck, hck, hCk⟩ := hCk2.out
      have hCk := Lib.hid hCk
      clear hCk2
      rcases hk with h | ⟨h1, h2⟩ | h
      · obtain rfl : ck = 9 := by rw [hck, if_neg (by omega)]
        have hge : ∀ z : World, (binOp .geq 3 (.int .i64 k) (.int .i64 1)).run Tryd.prog z = .ok (.bool false) z := fun z => by
          have e : decide (1 ≤ k) = false := by simp; omega
          rw [← e]; rfl
        have hd1 : decide (1 ≤ k) = false := by simp; omega
        clear hck h
        refine wp_region_noPanic ?_
        refine wp_region_held_drew (S := (fun w' => w'.cell? ⟨w.heap.size, 0, none⟩ = some (.int .i64 k) ∧ w'.cell? ⟨w.heap.size, 1, none⟩ = some (.bool fl) ∧ w'.cell? ⟨w.heap.size + 1, 0, none⟩ = some (.int .u64 (u : Nat)) ∧ w'.cell? ⟨w.heap.size + 1, 1, none⟩ = some (.int .i64 i) ∧ w'.cell? ⟨w.heap.size + 1, 2, none⟩ = some (.slice a n c) ∧ w'.cell? ⟨w.heap.size + 1, 3, none⟩ = some (.bool t) ∧ w'.cell? ⟨g, 0, none⟩ = some (.int .u64 (U : Nat)) ∧ w'.cell? ⟨g, 1, none⟩ = some (.int .i64 I) ∧ w'.cell? ⟨g, 2, none⟩ = some (.slice a4 L.length c4) ∧ w'.cell? ⟨g, 3, none⟩ = some (.bool T))) (by kernel_rfl) ?_ (fun hHeld => ?_)
        · exact ⟨f0, f1, v0, v1, v2, v3, y0, y1, y2, y3⟩
        have E0d : Hid (Below w6.heap.size w6 w6.drew) := (Below.refl _ w6).drew
        refine wpAnyH_take (i := 0) (oi := ⟨some 40, _, _, _, _, _⟩) (v := ?_) rfl (by kernel_rfl) (by kernel_rfl) (by kernel_rfl) (fun _ _ _ h => h) (Or.inl ⟨by rfl, ?_⟩) (by assumption) ?_
        rotate_left
        · (intro w hSw; (try dsimp only at hSw); go_simp) <;> with_reducible rfl
        (try simp only [Act.put, List.setIfInBounds_toArray, List.set_cons_zero, List.set_cons_succ])
        refine wpAnyH_take (i := 1) (oi := ⟨some 41, _, _, _, _, _⟩) (v := ?_) rfl (by kernel_rfl) (by kernel_rfl) (by kernel_rfl) (fun _ _ _ h => h) (Or.inl ⟨by rfl, ?_⟩) (by assumption) ?_
        rotate_left
        · (intro w hSw; (try dsimp only at hSw); go_simp) <;> with_reducible rfl
        (try simp only [Act.put, List.setIfInBounds_toArray, List.set_cons_zero, List.set_cons_succ])
        refine wpAnyH_ready (rs := [2]) (by kernel_rfl) (by simp) ?_
        refine AllReadyH.cons (o := ⟨some 42, _, _, _, _, _⟩) rfl (fun K hK => ?_) AllReadyH.nil
        go_simp
        go_at_call 10; refine (hS1.out _ (by (first | (first | (first | exact Hid.out (by assumption) | exact Below.refl _ _) | (with_reducible refine Below.drew ?_; (first | exact Hid.out (by assumption) | exact Below.refl _ _)) | (with_reducible refine below_drewN ?_ _; (first | exact Hid.out (by assumption) | exact Below.refl _ _))) | (with_reducible refine below_at ?_ _; (first | (first | exact Hid.out (by assumption) | exact Below.refl _ _) | (with_reducible refine Below.drew ?_; (first | exact Hid.out (by assumption) | exact Below.refl _ _)) | (with_reducible refine below_drewN ?_ _; (first | exact Hid.out (by assumption) | exact Below.refl _ _)))) | (with_reducible refine Below.drew ?_; with_reducible refine below_at ?_ _; (first | (first | exact Hid.out (by assumption) | exact Below.refl _ _) | (with_reducible refine Below.drew ?_; (first | exact Hid.out (by assumption) | exact Below.refl _ _)) | (with_reducible refine below_drewN ?_ _; (first | exact Hid.out (by assumption) | exact Below.refl _ _)))) | (with_reducible refine below_drewN ?_ _; with_reducible refine below_at ?_ _; (first | (first | exact Hid.out (by assumption) | exact Below.refl _ _) | (with_reducible refine Below.drew ?_; (first | exact Hid.out (by assumption) | exact Below.refl _ _)) | (with_reducible refine below_drewN ?_ _; (first | exact Hid.out (by assumption) | exact Below.refl _ _))))))).mono ?_; rintro e x1 ⟨rfl, q⟩
        have E1 := Lib.hid (below_then (w := w6) (by (first | (first | (first | exact Hid.out (by assumption) | exact Below.refl _ _) | (with_reducible refine Below.drew ?_; (first | exact Hid.out (by assumption) | exact Below.refl _ _)) | (with_reducible refine below_drewN ?_ _; (first | exact Hid.out (by assumption) | exact Below.refl _ _))) | (with_reducible refine below_at ?_ _; (first | (first | exact Hid.out (by assumption) | exact Below.refl _ _) | (with_reducible refine Below.drew ?_; (first | exact Hid.out (by assumption) | exact Below.refl _ _)) | (with_reducible refine below_drewN ?_ _; (first | exact Hid.out (by assumption) | exact Below.refl _ _)))) | (with_reducible refine Below.drew ?_; with_reducible refine below_at ?_ _; (first | (first | exact Hid.out (by assumption) | exact Below.refl _ _) | (with_reducible refine Below.drew ?_; (first | exact Hid.out (by assumption) | exact Below.refl _ _)) | (with_reducible refine below_drewN ?_ _; (first | exact Hid.out (by assumption) | exact Below.refl _ _)))) | (with_reducible refine below_drewN ?_ _; with_reducible refine below_at ?_ _; (first | (first | exact Hid.out (by assumption) | exact Below.refl _ _) | (with_reducible refine Below.drew ?_; (first | exact Hid.out (by assumption) | exact Below.refl _ _)) | (with_reducible refine below_drewN ?_ _; (first | exact Hid.out (by assumption) | exact Below.refl _ _)))))) q)
        obtain ⟨⟨f0, f1, v0, v1, v2, v3⟩, y0, y1, y2, y3⟩ := hal6.out x1 E1.out
        clear q
        refine hK.out _ _ ⟨f0, f1, v0, v1, v2, v3, y0, y1, y2, y3⟩ (fun hHeld => ?_)
        clear hK K
        (try simp only [Act.put, List.setIfInBounds_toArray, List.set_cons_zero, List.set_cons_succ])
        refine wpAnyH_take (i := 3) (oi := ⟨some 43, _, _, _, _, _⟩) (v := ?_) rfl (by kernel_rfl) (by kernel_rfl) (by kernel_rfl) (fun _ _ _ h => h) (Or.inl ⟨by rfl, ?_⟩) (by assumption) ?_
        rotate_left
        · (intro w hSw; (try dsimp only at hSw); go_simp) <;> with_reducible rfl
        (try simp only [Act.put, List.setIfInBounds_toArray, List.set_cons_zero, List.set_cons_succ])
        refine wpAnyH_take (i := 4) (oi := ⟨some 44, _, _, _, _, _⟩) (v := ?_) rfl (by kernel_rfl) (by kernel_rfl) (by kernel_rfl) (fun _ _ _ h => h) (Or.inl ⟨by rfl, ?_⟩) (by assumption) ?_
        rotate_left
        · (intro w hSw; (try dsimp only at hSw); go_simp) <;> with_reducible rfl
        (try simp only [Act.put, List.setIfInBounds_toArray, List.set_cons_zero, List.set_cons_succ])
        refine wpAnyH_take (i := 5) (oi := ⟨some 45, _, _, _, _, _⟩) (v := ?_) rfl (by kernel_rfl) (by kernel_rfl) (by kernel_rfl) (fun _ _ _ h => h) (Or.inl ⟨by rfl, ?_⟩) (by assumption) ?_
        rotate_left
        · (intro w hSw; (try dsimp only at hSw); go_simp) <;> with_reducible rfl
        (try simp only [Act.put, List.setIfInBounds_toArray, List.set_cons_zero, List.set_cons_succ])
        refine wpAnyH_take (i := 6) (oi := ⟨some 46, _, _, _, _, _⟩) (v := ?_) rfl (by kernel_rfl) (by kernel_rfl) (by kernel_rfl) (fun _ _ _ h => h) (Or.inl ⟨by rfl, ?_⟩) (by assumption) ?_
        rotate_left
        · (intro w hSw; (try dsimp only at hSw); go_simp) <;> with_reducible rfl
        (try simp only [Act.put, List.setIfInBounds_toArray, List.set_cons_zero, List.set_cons_succ])
        refine wpAnyH_take (i := 7) (oi := ⟨some 47, _, _, _, _, _⟩) (v := ?_) rfl (by kernel_rfl) (by kernel_rfl) (by kernel_rfl) (fun _ _ _ h => h) (Or.inl ⟨by rfl, ?_⟩) (by assumption) ?_
        rotate_left
        · (intro w hSw; (try dsimp only at hSw); go_simp) <;> with_reducible rfl
        (try simp only [Act.put, List.setIfInBounds_toArray, List.set_cons_zero, List.set_cons_succ])
        refine wpAnyH_take (i := 8) (oi := ⟨some 48, _, _, _, _, _⟩) (v := ?_) rfl (by kernel_rfl) (by kernel_rfl) (by kernel_rfl) (fun _ _ _ h => h) (Or.inl ⟨by rfl, ?_⟩) (by assumption) ?_
        rotate_left
        · (intro w hSw; (try dsimp only at hSw); go_simp) <;> with_reducible rfl
        (try simp only [Act.put, List.setIfInBounds_toArray, List.set_cons_zero, List.set_cons_succ])
        refine wpAnyH_take (i := 9) (oi := ⟨some 49, _, _, _, _, _⟩) (v := ?_) rfl (by kernel_rfl) (by kernel_rfl) (by kernel_rfl) (fun _ _ _ h => h) (Or.inl ⟨by rfl, ?_⟩) (by assumption) ?_
        rotate_left
        · (intro w hSw; (try dsimp only at hSw); go_simp) <;> with_reducible rfl
        (try simp only [Act.put, List.setIfInBounds_toArray, List.set_cons_zero, List.set_cons_succ])
        refine wpAnyH_take (i := 12) (oi := ⟨some 52, _, _, _, _, _⟩) (v := ?_) rfl (by kernel_rfl) (by kernel_rfl) (by kernel_rfl) (fun _ _ _ h => h) (Or.inl ⟨by rfl, ?_⟩) (by assumption) ?_
        rotate_left
        · (intro w hSw; (try dsimp only at hSw); go_simp) <;> with_reducible rfl
        (try simp only [Act.put, List.setIfInBounds_toArray, List.set_cons_zero, List.set_cons_succ])
        refine wpAnyH_take (i := 13) (oi := ⟨some 53, _, _, _, _, _⟩) (v := ?_) rfl (by kernel_rfl) (by kernel_rfl) (by kernel_rfl) (fun _ _ _ h => h) (Or.inl ⟨by rfl, ?_⟩) (by assumption) ?_
        rotate_left
        · (intro w hSw; (try dsimp only at hSw); go_simp) <;> with_reducible rfl
        (try simp only [Act.put, List.setIfInBounds_toArray, List.set_cons_zero, List.set_cons_succ])
        refine wpAnyH_take (i := 14) (oi := ⟨some 54, _, _, _, _, _⟩) (v := ?_) rfl (by kernel_rfl) (by kernel_rfl) (by kernel_rfl) (fun _ _ _ h => h) (Or.inl ⟨by rfl, ?_⟩) (by assumption) ?_
        rotate_left
        · (intro w hSw; (try dsimp only at hSw); go_simp) <;> with_reducible rfl
        (try simp only [Act.put, List.setIfInBounds_toArray, List.set_cons_zero, List.set_cons_succ])
        refine wpAnyH_ready (rs := [10]) (by kernel_rfl) (by simp) ?_
        refine AllReadyH.cons (o := ⟨some 50, _, _, _, _, _⟩) rfl (fun K hK => ?_) AllReadyH.nil
        go_simp
        go_at_call 11; refine (hCk.out _).mono ?_; rintro e x2 ⟨rfl, q⟩
        have E2 := Lib.hid (below_then (w := w6) (by (first | (first | (first | exact Hid.out (by assumption) | exact Below.refl _ _) | (with_reducible refine Below.drew ?_; (first | exact Hid.out (by assumption) | exact Below.refl _ _)) | (with_reducible refine below_drewN ?_ _; (first | exact Hid.out (by assumption) | exact Below.refl _ _))) | (with_reducible refine below_at ?_ _; (first | (first | exact Hid.out (by assumption) | exact Below.refl _ _) | (with_reducible refine Below.drew ?_; (first | exact Hid.out (by assumption) | exact Below.refl _ _)) | (with_reducible refine below_drewN ?_ _; (first | exact Hid.out (by assumption) | exact Below.refl _ _)))) | (with_reducible refine Below.drew ?_; with_reducible refine below_at ?_ _; (first | (first | exact Hid.out (by assumption) | exact Below.refl _ _) | (with_reducible refine Below.drew ?_; (first | exact Hid.out (by assumption) | exact Below.refl _ _)) | (with_reducible refine below_drewN ?_ _; (first | exact Hid.out (by assumption) | exact Below.refl _ _)))) | (with_reducible refine below_drewN ?_ _; with_reducible refine below_at ?_ _; (first | (first | exact Hid.out (by assumption) | exact Below.refl _ _) | (with_reducible refine Below.drew ?_; (first | exact Hid.out (by assumption) | exact Below.refl _ _)) | (with_reducible refine below_drewN ?_ _; (first | exact Hid.out (by assumption) | exact Below.refl _ _)))))) q)
        obtain ⟨⟨f0, f1, v0, v1, v2, v3⟩, y0, y1, y2, y3⟩ := hal6.out x2 E2.out
        clear q
        refine hK.out _ _ ⟨f0, f1, v0, v1, v2, v3, y0, y1, y2, y3⟩ (fun hHeld => ?_)
        clear hK K
        (try simp only [Act.put, List.setIfInBounds_toArray, List.set_cons_zero, List.set_cons_succ])
        refine wpAnyH_take (i := 11) (oi := ⟨some 51, _, _, _, _, _⟩) (v := ?_) rfl (by kernel_rfl) (by kernel_rfl) (by kernel_rfl) (fun _ _ _ h => h) (Or.inl ⟨by rfl, ?_⟩) (by assumption) ?_
        rotate_left
        · (intro w hSw; (try dsimp only at hSw); go_simp) <;> with_reducible rfl
        (try simp only [Act.put, List.setIfInBounds_toArray, List.set_cons_zero, List.set_cons_succ])
        refine wpAnyH_take (i := 15) (oi := ⟨some 55, _, _, _, _, _⟩) (v := ?_) rfl (by kernel_rfl) (by kernel_rfl) (by kernel_rfl) (fun _ _ _ h => h) (Or.inl ⟨by rfl, ?_⟩) (by assumption) ?_
        rotate_left
        · (intro w hSw; (try dsimp only at hSw); go_simp) <;> with_reducible rfl
        (try simp only [Act.put, List.setIfInBounds_toArray, List.set_cons_zero, List.set_cons_succ])
        refine wpAnyH_take (i := 16) (oi := ⟨some 56, _, _, _, _, _⟩) (v := undef) rfl (by kernel_rfl) (by kernel_rfl) (by kernel_rfl) (fun _ _ _ h => h) (Or.inr ⟨by rfl, rfl⟩) (by assumption) ?_
        (try simp only [Act.put, List.setIfInBounds_toArray, List.set_cons_zero, List.set_cons_succ])
        refine wpAnyH_take (i := 17) (oi := ⟨some 57, _, _, _, _, _⟩) (v := undef) rfl (by kernel_rfl) (by kernel_rfl) (by kernel_rfl) (fun _ _ _ h => h) (Or.inr ⟨by rfl, rfl⟩) (by assumption) ?_
        (try simp only [Act.put, List.setIfInBounds_toArray, List.set_cons_zero, List.set_cons_succ])
        refine wpAnyH_take (i := 18) (oi := ⟨some 58, _, _, _, _, _⟩) (v := undef) rfl (by kernel_rfl) (by kernel_rfl) (by kernel_rfl) (fun _ _ _ h => h) (Or.inr ⟨by rfl, rfl⟩) (by assumption) ?_
        (try simp only [Act.put, List.setIfInBounds_toArray, List.set_cons_zero, List.set_cons_succ])
        refine wpAnyH_take (i := 19) (oi := ⟨some 59, _, _, _, _, _⟩) (v := ?_) rfl (by kernel_rfl) (by kernel_rfl) (by kernel_rfl) (fun _ _ _ h => h) (Or.inl ⟨by rfl, ?_⟩) (by assumption) ?_
        rotate_left
        · (intro w hSw; (try dsimp only at hSw); go_simp) <;> with_reducible rfl
        (try simp only [Act.put, List.setIfInBounds_toArray, List.set_cons_zero, List.set_cons_succ])
        refine wpAnyH_take (i := 20) (oi := ⟨some 60, _, _, _, _, _⟩) (v := ?_) rfl (by kernel_rfl) (by kernel_rfl) (by kernel_rfl) (fun _ _ _ h => h) (Or.inl ⟨by rfl, ?_⟩) (by assumption) ?_
        rotate_left
        · (intro w hSw; (try dsimp only at hSw); go_simp) <;> with_reducible rfl
        (try simp only [Act.put, List.setIfInBounds_toArray, List.set_cons_zero, List.set_cons_succ])
        refine wpAnyH_take (i := 21) (oi := ⟨some 61, _, _, _, _, _⟩) (v := ?_) rfl (by kernel_rfl) (by kernel_rfl) (by kernel_rfl) (fun _ _ _ h => h) (Or.inl ⟨by rfl, ?_⟩) (by assumption) ?_
        rotate_left
        · (intro w hSw; (try dsimp only at hSw); go_simp) <;> with_reducible rfl
        (try simp only [Act.put, List.setIfInBounds_toArray, List.set_cons_zero, List.set_cons_succ])
        refine wpAnyH_take (i := 22) (oi := ⟨some 62, _, _, _, _, _⟩) (v := ?_) rfl (by kernel_rfl) (by kernel_rfl) (by kernel_rfl) (fun _ _ _ h => h) (Or.inl ⟨by rfl, ?_⟩) (by assumption) ?_
        rotate_left
        · (intro w hSw; (try dsimp only at hSw); go_simp) <;> with_reducible rfl
        (try simp only [Act.put, List.setIfInBounds_toArray, List.set_cons_zero, List.set_cons_succ])
        refine wpAnyH_take (i := 23) (oi := ⟨some 63, _, _, _, _, _⟩) (v := ?_) rfl (by kernel_rfl) (by kernel_rfl) (by kernel_rfl) (fun _ _ _ h => h) (Or.inl ⟨by rfl, ?_⟩) (by assumption) ?_
        rotate_left
        · (intro w hSw; (try dsimp only at hSw); go_simp) <;> with_reducible rfl
        (try simp only [Act.put, List.setIfInBounds_toArray, List.set_cons_zero, List.set_cons_succ])
        refine wpAnyH_take (i := 24) (oi := ⟨some 64, _, _, _, _, _⟩) (v := ?_) rfl (by kernel_rfl) (by kernel_rfl) (by kernel_rfl) (fun _ _ _ h => h) (Or.inl ⟨by rfl, ?_⟩) (by assumption) ?_
        rotate_left
        · (intro w hSw; (try dsimp only at hSw); go_simp) <;> with_reducible rfl
        (try simp only [Act.put, List.setIfInBounds_toArray, List.set_cons_zero, List.set_cons_succ])
        refine wpAnyH_take (i := 25) (oi := ⟨some 65, _, _, _, _, _⟩) (v := ?_) rfl (by kernel_rfl) (by kernel_rfl) (by kernel_rfl) (fun _ _ _ h => h) (Or.inl ⟨by rfl, ?_⟩) (by assumption) ?_
        rotate_left
        · (intro w hSw; (try dsimp only at hSw); go_simp) <;> with_reducible rfl
        (try simp only [Act.put, List.setIfInBounds_toArray, List.set_cons_zero, List.set_cons_succ])
        refine wpAnyH_ready (rs := [26]) (by kernel_rfl) (by simp) ?_
        refine AllReadyH.cons (o := ⟨some 66, _, _, _, _, _⟩) rfl (fun K hK => ?_) AllReadyH.nil
        go_simp
        go_at_call 13; refine (hBd6.out _ (by (first | (first | (first | exact Hid.out (by assumption) | exact Below.refl _ _) | (with_reducible refine Below.drew ?_; (first | exact Hid.out (by assumption) | exact Below.refl _ _)) | (with_reducible refine below_drewN ?_ _; (first | exact Hid.out (by assumption) | exact Below.refl _ _))) | (with_reducible refine below_at ?_ _; (first | (first | exact Hid.out (by assumption) | exact Below.refl _ _) | (with_reducible refine Below.drew ?_; (first | exact Hid.out (by assumption) | exact Below.refl _ _)) | (with_reducible refine below_drewN ?_ _; (first | exact Hid.out (by assumption) | exact Below.refl _ _)))) | (with_reducible refine Below.drew ?_; with_reducible refine below_at ?_ _; (first | (first | exact Hid.out (by assumption) | exact Below.refl _ _) | (with_reducible refine Below.drew ?_; (first | exact Hid.out (by assumption) | exact Below.refl _ _)) | (with_reducible refine below_drewN ?_ _; (first | exact Hid.out (by assumption) | exact Below.refl _ _)))) | (with_reducible refine below_drewN ?_ _; with_reducible refine below_at ?_ _; (first | (first | exact Hid.out (by assumption) | exact Below.refl _ _) | (with_reducible refine Below.drew ?_; (first | exact Hid.out (by assumption) | exact Below.refl _ _)) | (with_reducible refine below_drewN ?_ _; (first | exact Hid.out (by assumption) | exact Below.refl _ _))))))).mono ?_; rintro e x3 ⟨a7, c7, rfl, s, q⟩
        have E3 := Lib.hid (below_then (w := w6) (by (first | (first | (first | exact Hid.out (by assumption) | exact Below.refl _ _) | (with_reducible refine Below.drew ?_; (first | exact Hid.out (by assumption) | exact Below.refl _ _)) | (with_reducible refine below_drewN ?_ _; (first | exact Hid.out (by assumption) | exact Below.refl _ _))) | (with_reducible refine below_at ?_ _; (first | (first | exact Hid.out (by assumption) | exact Below.refl _ _) | (with_reducible refine Below.drew ?_; (first | exact Hid.out (by assumption) | exact Below.refl _ _)) | (with_reducible refine below_drewN ?_ _; (first | exact Hid.out (by assumption) | exact Below.refl _ _)))) | (with_reducible refine Below.drew ?_; with_reducible refine below_at ?_ _; (first | (first | exact Hid.out (by assumption) | exact Below.refl _ _) | (with_reducible refine Below.drew ?_; (first | exact Hid.out (by assumption) | exact Below.refl _ _)) | (with_reducible refine below_drewN ?_ _; (first | exact Hid.out (by assumption) | exact Below.refl _ _)))) | (with_reducible refine below_drewN ?_ _; with_reducible refine below_at ?_ _; (first | (first | exact Hid.out (by assumption) | exact Below.refl _ _) | (with_reducible refine Below.drew ?_; (first | exact Hid.out (by assumption) | exact Below.refl _ _)) | (with_reducible refine below_drewN ?_ _; (first | exact Hid.out (by assumption) | exact Below.refl _ _)))))) q)
        obtain ⟨⟨f0, f1, v0, v1, v2, v3⟩, y0, y1, y2, y3⟩ := hal6.out x3 E3.out
        clear q
        have S7 := Lib.hid s; clear s
        refine hK.out _ _ ⟨f0, f1, v0, v1, v2, v3, y0, y1, y2, y3⟩ (fun hHeld => ?_)
        clear hK K
        (try simp only [Act.put, List.setIfInBounds_toArray, List.set_cons_zero, List.set_cons_succ])
        refine wpAnyH_ready (rs := [27]) (by kernel_rfl) (by simp) ?_
        refine AllReadyH.cons (o := ⟨some 67, _, _, _, _, _⟩) rfl (fun K hK => ?_) AllReadyH.nil
        go_simp
        go_at_call 12; refine (hS3.out _ a7 c7 (by (first | (first | (first | exact Hid.out (by assumption) | exact Below.refl _ _) | (with_reducible refine Below.drew ?_; (first | exact Hid.out (by assumption) | exact Below.refl _ _)) | (with_reducible refine below_drewN ?_ _; (first | exact Hid.out (by assumption) | exact Below.refl _ _))) | (with_reducible refine below_at ?_ _; (first | (first | exact Hid.out (by assumption) | exact Below.refl _ _) | (with_reducible refine Below.drew ?_; (first | exact Hid.out (by assumption) | exact Below.refl _ _)) | (with_reducible refine below_drewN ?_ _; (first | exact Hid.out (by assumption) | exact Below.refl _ _)))) | (with_reducible refine Below.drew ?_; with_reducible refine below_at ?_ _; (first | (first | exact Hid.out (by assumption) | exact Below.refl _ _) | (with_reducible refine Below.drew ?_; (first | exact Hid.out (by assumption) | exact Below.refl _ _)) | (with_reducible refine below_drewN ?_ _; (first | exact Hid.out (by assumption) | exact Below.refl _ _)))) | (with_reducible refine below_drewN ?_ _; with_reducible refine below_at ?_ _; (first | (first | exact Hid.out (by assumption) | exact Below.refl _ _) | (with_reducible refine Below.drew ?_; (first | exact Hid.out (by assumption) | exact Below.refl _ _)) | (with_reducible refine below_drewN ?_ _; (first | exact Hid.out (by assumption) | exact Below.refl _ _)))))) S7.out).mono ?_; rintro e x4 ⟨rfl, q⟩
        have E4 := Lib.hid (below_then (w := w6) (by (first | (first | (first | exact Hid.out (by assumption) | exact Below.refl _ _) | (with_reducible refine Below.drew ?_; (first | exact Hid.out (by assumption) | exact Below.refl _ _)) | (with_reducible refine below_drewN ?_ _; (first | exact Hid.out (by assumption) | exact Below.refl _ _))) | (with_reducible refine below_at ?_ _; (first | (first | exact Hid.out (by assumption) | exact Below.refl _ _) | (with_reducible refine Below.drew ?_; (first | exact Hid.out (by assumption) | exact Below.refl _ _)) | (with_reducible refine below_drewN ?_ _; (first | exact Hid.out (by assumption) | exact Below.refl _ _)))) | (with_reducible refine Below.drew ?_; with_reducible refine below_at ?_ _; (first | (first | exact Hid.out (by assumption) | exact Below.refl _ _) | (with_reducible refine Below.drew ?_; (first | exact Hid.out (by assumption) | exact Below.refl _ _)) | (with_reducible refine below_drewN ?_ _; (first | exact Hid.out (by assumption) | exact Below.refl _ _)))) | (with_reducible refine below_drewN ?_ _; with_reducible refine below_at ?_ _; (first | (first | exact Hid.out (by assumption) | exact Below.refl _ _) | (with_reducible refine Below.drew ?_; (first | exact Hid.out (by assumption) | exact Below.refl _ _)) | (with_reducible refine below_drewN ?_ _; (first | exact Hid.out (by assumption) | exact Below.refl _ _)))))) q)
        obtain ⟨⟨f0, f1, v0, v1, v2, v3⟩, y0, y1, y2, y3⟩ := hal6.out x4 E4.out
        clear q
        refine hK.out _ _ ⟨f0, f1, v0, v1, v2, v3, y0, y1, y2, y3⟩ (fun hHeld => ?_)
        clear hK K
        (try simp only [Act.put, List.setIfInBounds_toArray, List.set_cons_zero, List.set_cons_succ])
        refine wpAnyH_take (i := 28) (oi := ⟨some 68, _, _, _, _, _⟩) (v := ?_) rfl (by kernel_rfl) (by kernel_rfl) (by kernel_rfl) (fun _ _ _ h => h) (Or.inl ⟨by rfl, ?_⟩) (by assumption) ?_
        rotate_left
        · (intro w hSw; (try dsimp only at hSw); go_simp) <;> with_reducible rfl
        (try simp only [Act.put, List.setIfInBounds_toArray, List.set_cons_zero, List.set_cons_succ])
        refine wpAnyH_take (i := 29) (oi := ⟨some 69, _, _, _, _, _⟩) (v := ?_) rfl (by kernel_rfl) (by kernel_rfl) (by kernel_rfl) (fun _ _ _ h => h) (Or.inl ⟨by rfl, ?_⟩) (by assumption) ?_
        rotate_left
        · (intro w hSw; (try dsimp only at hSw); go_simp) <;> with_reducible rfl
        (try simp only [Act.put, List.setIfInBounds_toArray, List.set_cons_zero, List.set_cons_succ])
        refine wpAnyH_take (i := 30) (oi := ⟨some 70, _, _, _, _, _⟩) (v := ?_) rfl (by kernel_rfl) (by kernel_rfl) (by kernel_rfl) (fun _ _ _ h => h) (Or.inl ⟨by rfl, ?_⟩) (by assumption) ?_
        rotate_left
        · (intro w hSw; (try dsimp only at hSw); go_simp) <;> with_reducible rfl
        (try simp only [Act.put, List.setIfInBounds_toArray, List.set_cons_zero, List.set_cons_succ])
        refine wpAnyH_take (i := 31) (oi := ⟨some 71, _, _, _, _, _⟩) (v := ?_) rfl (by kernel_rfl) (by kernel_rfl) (by kernel_rfl) (fun _ _ _ h => h) (Or.inl ⟨by rfl, ?_⟩) (by assumption) ?_
        rotate_left
        · (intro w hSw; (try dsimp only at hSw); go_simp) <;> with_reducible rfl
        (try simp only [Act.put, List.setIfInBounds_toArray, List.set_cons_zero, List.set_cons_succ])
        refine wpAnyH_ready (rs := [32]) (by kernel_rfl) (by simp) ?_
        refine AllReadyH.cons (o := ⟨some 72, _, _, _, _, _⟩) rfl (fun K hK => ?_) AllReadyH.nil
        go_simp
        go_at_call 10; refine (hS2.out _ (by (first | (first | (first | exact Hid.out (by assumption) | exact Below.refl _ _) | (with_reducible refine Below.drew ?_; (first | exact Hid.out (by assumption) | exact Below.refl _ _)) | (with_reducible refine below_drewN ?_ _; (first | exact Hid.out (by assumption) | exact Below.refl _ _))) | (with_reducible refine below_at ?_ _; (first | (first | exact Hid.out (by assumption) | exact Below.refl _ _) | (with_reducible refine Below.drew ?_; (first | exact Hid.out (by assumption) | exact Below.refl _ _)) | (with_reducible refine below_drewN ?_ _; (first | exact Hid.out (by assumption) | exact Below.refl _ _)))) | (with_reducible refine Below.drew ?_; with_reducible refine below_at ?_ _; (first | (first | exact Hid.out (by assumption) | exact Below.refl _ _) | (with_reducible refine Below.drew ?_; (first | exact Hid.out (by assumption) | exact Below.refl _ _)) | (with_reducible refine below_drewN ?_ _; (first | exact Hid.out (by assumption) | exact Below.refl _ _)))) | (with_reducible refine below_drewN ?_ _; with_reducible refine below_at ?_ _; (first | (first | exact Hid.out (by assumption) | exact Below.refl _ _) | (with_reducible refine Below.drew ?_; (first | exact Hid.out (by assumption) | exact Below.refl _ _)) | (with_reducible refine below_drewN ?_ _; (first | exact Hid.out (by assumption) | exact Below.refl _ _))))))).mono ?_; rintro e x5 ⟨rfl, q⟩
        have E5 := Lib.hid (below_then (w := w6) (by (first | (first | (first | exact Hid.out (by assumption) | exact Below.refl _ _) | (with_reducible refine Below.drew ?_; (first | exact Hid.out (by assumption) | exact Below.refl _ _)) | (with_reducible refine below_drewN ?_ _; (first | exact Hid.out (by assumption) | exact Below.refl _ _))) | (with_reducible refine below_at ?_ _; (first | (first | exact Hid.out (by assumption) | exact Below.refl _ _) | (with_reducible refine Below.drew ?_; (first | exact Hid.out (by assumption) | exact Below.refl _ _)) | (with_reducible refine below_drewN ?_ _; (first | exact Hid.out (by assumption) | exact Below.refl _ _)))) | (with_reducible refine Below.drew ?_; with_reducible refine below_at ?_ _; (first | (first | exact Hid.out (by assumption) | exact Below.refl _ _) | (with_reducible refine Below.drew ?_; (first | exact Hid.out (by assumption) | exact Below.refl _ _)) | (with_reducible refine below_drewN ?_ _; (first | exact Hid.out (by assumption) | exact Below.refl _ _)))) | (with_reducible refine below_drewN ?_ _; with_reducible refine below_at ?_ _; (first | (first | exact Hid.out (by assumption) | exact Below.refl _ _) | (with_reducible refine Below.drew ?_; (first | exact Hid.out (by assumption) | exact Below.refl _ _)) | (with_reducible refine below_drewN ?_ _; (first | exact Hid.out (by assumption) | exact Below.refl _ _)))))) q)
        obtain ⟨⟨f0, f1, v0, v1, v2, v3⟩, y0, y1, y2, y3⟩ := hal6.out x5 E5.out
        clear q
        refine hK.out _ _ ⟨f0, f1, v0, v1, v2, v3, y0, y1, y2, y3⟩ (fun hHeld => ?_)
        clear hK K
        (try simp only [Act.put, List.setIfInBounds_toArray, List.set_cons_zero, List.set_cons_succ])
        refine wpAnyH_take (i := 33) (oi := ⟨some 73, _, _, _, _, _⟩) (v := ?_) rfl (by kernel_rfl) (by kernel_rfl) (by kernel_rfl) (fun _ _ _ h => h) (Or.inl ⟨by rfl, ?_⟩) (by assumption) ?_
        rotate_left
        · (intro w hSw; (try dsimp only at hSw); go_simp) <;> with_reducible rfl
        (try simp only [Act.put, List.setIfInBounds_toArray, List.set_cons_zero, List.set_cons_succ])
        refine wpAnyH_take (i := 34) (oi := ⟨some 74, _, _, _, _, _⟩) (v := ?_) rfl (by kernel_rfl) (by kernel_rfl) (by kernel_rfl) (fun _ _ _ h => h) (Or.inl ⟨by rfl, ?_⟩) (by assumption) ?_
        rotate_left
        · (intro w hSw; (try dsimp only at hSw); go_simp) <;> with_reducible rfl
        (try simp only [Act.put, List.setIfInBounds_toArray, List.set_cons_zero, List.set_cons_succ])
        refine wpAnyH_take (i := 35) (oi := ⟨some 75, _, _, _, _, _⟩) (v := ?_) rfl (by kernel_rfl) (by kernel_rfl) (by kernel_rfl) (fun _ _ _ h => h) (Or.inl ⟨by rfl, ?_⟩) (by assumption) ?_
        rotate_left
        · (intro w hSw; (try dsimp only at hSw); go_simp) <;> with_reducible rfl
        (try simp only [Act.put, List.setIfInBounds_toArray, List.set_cons_zero, List.set_cons_succ])
        refine wpAnyH_take (i := 36) (oi := ⟨some 76, _, _, _, _, _⟩) (v := ?_) rfl (by kernel_rfl) (by kernel_rfl) (by kernel_rfl) (fun _ _ _ h => h) (Or.inl ⟨by rfl, ?_⟩) (by assumption) ?_
        rotate_left
        · (intro w hSw; (try dsimp only at hSw); go_simp) <;> with_reducible rfl
        (try simp only [Act.put, List.setIfInBounds_toArray, List.set_cons_zero, List.set_cons_succ])
        refine wpAnyH_take (i := 37) (oi := ⟨some 77, _, _, _, _, _⟩) (v := ?_) rfl (by kernel_rfl) (by kernel_rfl) (by kernel_rfl) (fun _ _ _ h => h) (Or.inl ⟨by rfl, ?_⟩) (by assumption) ?_
        rotate_left
        · (intro w hSw; (try dsimp only at hSw); go_simp) <;> with_reducible rfl
        (try simp only [Act.put, List.setIfInBounds_toArray, List.set_cons_zero, List.set_cons_succ])
        refine wpAnyH_take (i := 38) (oi := ⟨some 78, _, _, _, _, _⟩) (v := ?_) rfl (by kernel_rfl) (by kernel_rfl) (by kernel_rfl) (fun _ _ _ h => h) (Or.inl ⟨by rfl, ?_⟩) (by assumption) ?_
        rotate_left
        · (intro w hSw; (try dsimp only at hSw); go_simp) <;> with_reducible rfl
        (try simp only [Act.put, List.setIfInBounds_toArray, List.set_cons_zero, List.set_cons_succ])
        refine wpAnyH_take (i := 39) (oi := ⟨some 79, _, _, _, _, _⟩) (v := ?_) rfl (by kernel_rfl) (by kernel_rfl) (by kernel_rfl) (fun _ _ _ h => h) (Or.inl ⟨by rfl, ?_⟩) (by assumption) ?_
        rotate_left
        · (intro w hSw; (try dsimp only at hSw); go_simp) <;> with_reducible rfl
        (try simp only [Act.put, List.setIfInBounds_toArray, List.set_cons_zero, List.set_cons_succ])
        refine wpAnyH_ready (rs := [40]) (by kernel_rfl) (by simp) ?_
        refine AllReadyH.cons (o := ⟨some 80, _, _, _, _, _⟩) rfl (fun K hK => ?_) AllReadyH.nil
        go_simp
        go_at_call 5; refine (hAl6.out _ (by (first | (first | (first | exact Hid.out (by assumption) | exact Below.refl _ _) | (with_reducible refine Below.drew ?_; (first | exact Hid.out (by assumption) | exact Below.refl _ _)) | (with_reducible refine below_drewN ?_ _; (first | exact Hid.out (by assumption) | exact Below.refl _ _))) | (with_reducible refine below_at ?_ _; (first | (first | exact Hid.out (by assumption) | exact Below.refl _ _) | (with_reducible refine Below.drew ?_; (first | exact Hid.out (by assumption) | exact Below.refl _ _)) | (with_reducible refine below_drewN ?_ _; (first | exact Hid.out (by assumption) | exact Below.refl _ _)))) | (with_reducible refine Below.drew ?_; with_reducible refine below_at ?_ _; (first | (first | exact Hid.out (by assumption) | exact Below.refl _ _) | (with_reducible refine Below.drew ?_; (first | exact Hid.out (by assumption) | exact Below.refl _ _)) | (with_reducible refine below_drewN ?_ _; (first | exact Hid.out (by assumption) | exact Below.refl _ _)))) | (with_reducible refine below_drewN ?_ _; with_reducible refine below_at ?_ _; (first | (first | exact Hid.out (by assumption) | exact Below.refl _ _) | (with_reducible refine Below.drew ?_; (first | exact Hid.out (by assumption) | exact Below.refl _ _)) | (with_reducible refine below_drewN ?_ _; (first | exact Hid.out (by assumption) | exact Below.refl _ _))))))).mono ?_; rintro e x6 ⟨rfl, q⟩
        have E6 := Lib.hid (below_then (w := w6) (by (first | (first | (first | exact Hid.out (by assumption) | exact Below.refl _ _) | (with_reducible refine Below.drew ?_; (first | exact Hid.out (by assumption) | exact Below.refl _ _)) | (with_reducible refine below_drewN ?_ _; (first | exact Hid.out (by assumption) | exact Below.refl _ _))) | (with_reducible refine below_at ?_ _; (first | (first | exact Hid.out (by assumption) | exact Below.refl _ _) | (with_reducible refine Below.drew ?_; (first | exact Hid.out (by assumption) | exact Below.refl _ _)) | (with_reducible refine below_drewN ?_ _; (first | exact Hid.out (by assumption) | exact Below.refl _ _)))) | (with_reducible refine Below.drew ?_; with_reducible refine below_at ?_ _; (first | (first | exact Hid.out (by assumption) | exact Below.refl _ _) | (with_reducible refine Below.drew ?_; (first | exact Hid.out (by assumption) | exact Below.refl _ _)) | (with_reducible refine below_drewN ?_ _; (first | exact Hid.out (by assumption) | exact Below.refl _ _)))) | (with_reducible refine below_drewN ?_ _; with_reducible refine below_at ?_ _; (first | (first | exact Hid.out (by assumption) | exact Below.refl _ _) | (with_reducible refine Below.drew ?_; (first | exact Hid.out (by assumption) | exact Below.refl _ _)) | (with_reducible refine below_drewN ?_ _; (first | exact Hid.out (by assumption) | exact Below.refl _ _)))))) q)
        obtain ⟨⟨f0, f1, v0, v1, v2, v3⟩, y0, y1, y2, y3⟩ := hal6.out x6 E6.out
        clear q
        refine hK.out _ _ ⟨f0, f1, v0, v1, v2, v3, y0, y1, y2, y3⟩ (fun hHeld => ?_)
        clear hK K
        (try simp only [Act.put, List.setIfInBounds_toArray, List.set_cons_zero, List.set_cons_succ])
        refine wpAnyH_take (i := 41) (oi := ⟨some 81, _, _, _, _, _⟩) (v := ?_) rfl (by kernel_rfl) (by kernel_rfl) (by kernel_rfl) (fun _ _ _ h => h) (Or.inl ⟨by rfl, ?_⟩) (by assumption) ?_
        rotate_left
        · (intro w hSw; (try dsimp only at hSw); go_simp) <;> with_reducible rfl
        (try simp only [Act.put, List.setIfInBounds_toArray, List.set_cons_zero, List.set_cons_succ])
        refine wpAnyH_take (i := 42) (oi := ⟨some 4, _, _, _, _, _⟩) (v := ?_) rfl (by kernel_rfl) (by kernel_rfl) (by kernel_rfl) (fun _ _ _ h => h) (Or.inl ⟨by rfl, ?_⟩) (by assumption) ?_
        rotate_left
        · (intro w hSw; (try dsimp only at hSw); go_simp) <;> with_reducible rfl
        (try simp only [Act.put, List.setIfInBounds_toArray, List.set_cons_zero, List.set_cons_succ])
        refine wpAnyH_done (by kernel_rfl) ?_ _
        refine NoPanic.normal ?_
        (try simp only [Exit.then, Exit.inBlock])
        go_wp2_with fail
        go_ret
        exact ⟨rfl, HB6.out.trans (E6.out.mono HB6.out.size)⟩
      · obtain rfl : ck = 0 := by rw [hck, if_pos ⟨h1, h2⟩]
        have hge : ∀ z : World, (binOp .geq 3 (.int .i64 k) (.int .i64 1)).run Tryd.prog z = .ok (.bool true) z := fun z => by
          have e : decide (1 ≤ k) = true := by simp; omega
          rw [← e]; rfl
        have hle : ∀ z : World, (binOp .leq 3 (.int .i64 k) (.int .i64 10)).run Tryd.prog z = .ok (.bool true) z := fun z => by
          have e : decide (k ≤ 10) = true := by simp; omega
          rw [← e]; rfl
        have hd1 : decide (1 ≤ k) = true := by simp; omega
        have hd2 : decide (k ≤ 10) = true := by simp; omega
        clear hck
        go_region_held3 (fun w' => w'.cell? ⟨w.heap.size, 0, none⟩ = some (.int .i64 k) ∧ w'.cell? ⟨w.heap.size, 1, none⟩ = some (.bool fl) ∧ w'.cell? ⟨w.heap.size + 1, 0, none⟩ = some (.int .u64 (u : Nat)) ∧ w'.cell? ⟨w.heap.size + 1, 1, none⟩ = some (.int .i64 i) ∧ w'.cell? ⟨w.heap.size + 1, 2, none⟩ = some (.slice a n c) ∧ w'.cell? ⟨w.heap.size + 1, 3, none⟩ = some (.bool t) ∧ w'.cell? ⟨g, 0, none⟩ = some (.int .u64 (U : Nat)) ∧ w'.cell? ⟨g, 1, none⟩ = some (.int .i64 I) ∧ w'.cell? ⟨g, 2, none⟩ = some (.slice a4 L.length c4) ∧ w'.cell? ⟨g, 3, none⟩ = some (.bool T)) (first | go_keep)
          (first
          | (have gg := E5; go_at_call 5; refine (hAl6.out _ (by (first | (first | (first | exact Hid.out (by assumption) | exact Below.refl _ _) | (with_reducible refine Below.drew ?_; (first | exact Hid.out (by assumption) | exact Below.refl _ _)) | (with_reducible refine below_drewN ?_ _; (first | exact Hid.out (by assumption) | exact Below.refl _ _))) | (with_reducible refine below_at ?_ _; (first | (first | exact Hid.out (by assumption) | exact Below.refl _ _) | (with_reducible refine Below.drew ?_; (first | exact Hid.out (by assumption) | exact Below.refl _ _)) | (with_reducible refine below_drewN ?_ _; (first | exact Hid.out (by assumption) | exact Below.refl _ _)))) | (with_reducible refine Below.drew ?_; with_reducible refine below_at ?_ _; (first | (first | exact Hid.out (by assumption) | exact Below.refl _ _) | (with_reducible refine Below.drew ?_; (first | exact Hid.out (by assumption) | exact Below.refl _ _)) | (with_reducible refine below_drewN ?_ _; (first | exact Hid.out (by assumption) | exact Below.refl _ _)))) | (with_reducible refine below_drewN ?_ _; with_reducible refine below_at ?_ _; (first | (first | exact Hid.out (by assumption) | exact Below.refl _ _) | (with_reducible refine Below.drew ?_; (first | exact Hid.out (by assumption) | exact Below.refl _ _)) | (with_reducible refine below_drewN ?_ _; (first | exact Hid.out (by assumption) | exact Below.refl _ _))))))).mono ?_; rintro e x6 ⟨rfl, q⟩; have E6 := Lib.hid (below_then (w := w6) (by (first | (first | (first | exact Hid.out (by assumption) | exact Below.refl _ _) | (with_reducible refine Below.drew ?_; (first | exact Hid.out (by assumption) | exact Below.refl _ _)) | (with_reducible refine below_drewN ?_ _; (first | exact Hid.out (by assumption) | exact Below.refl _ _))) | (with_reducible refine below_at ?_ _; (first | (first | exact Hid.out (by assumption) | exact Below.refl _ _) | (with_reducible refine Below.drew ?_; (first | exact Hid.out (by assumption) | exact Below.refl _ _)) | (with_reducible refine below_drewN ?_ _; (first | exact Hid.out (by assumption) | exact Below.refl _ _)))) | (with_reducible refine Below.drew ?_; with_reducible refine below_at ?_ _; (first | (first | exact Hid.out (by assumption) | exact Below.refl _ _) | (with_reducible refine Below.drew ?_; (first | exact Hid.out (by assumption) | exact Below.refl _ _)) | (with_reducible refine below_drewN ?_ _; (first | exact Hid.out (by assumption) | exact Below.refl _ _)))) | (with_reducible refine below_drewN ?_ _; with_reducible refine below_at ?_ _; (first | (first | exact Hid.out (by assumption) | exact Below.refl _ _) | (with_reducible refine Below.drew ?_; (first | exact Hid.out (by assumption) | exact Below.refl _ _)) | (with_reducible refine below_drewN ?_ _; (first | exact Hid.out (by assumption) | exact Below.refl _ _)))))) q); obtain ⟨⟨f0, f1, v0, v1, v2, v3⟩, y0, y1, y2, y3⟩ := hal6.out x6 E6.out; clear q)
          | (have gg := E4; go_at_call 10; refine (hS2.out _ (by (first | (first | (first | exact Hid.out (by assumption) | exact Below.refl _ _) | (with_reducible refine Below.drew ?_; (first | exact Hid.out (by assumption) | exact Below.refl _ _)) | (with_reducible refine below_drewN ?_ _; (first | exact Hid.out (by assumption) | exact Below.refl _ _))) | (with_reducible refine below_at ?_ _; (first | (first | exact Hid.out (by assumption) | exact Below.refl _ _) | (with_reducible refine Below.drew ?_; (first | exact Hid.out (by assumption) | exact Below.refl _ _)) | (with_reducible refine below_drewN ?_ _; (first | exact Hid.out (by assumption) | exact Below.refl _ _)))) | (with_reducible refine Below.drew ?_; with_reducible refine below_at ?_ _; (first | (first | exact Hid.out (by assumption) | exact Below.refl _ _) | (with_reducible refine Below.drew ?_; (first | exact Hid.out (by assumption) | exact Below.refl _ _)) | (with_reducible refine below_drewN ?_ _; (first | exact Hid.out (by assumption) | exact Below.refl _ _)))) | (with_reducible refine below_drewN ?_ _; with_reducible refine below_at ?_ _; (first | (first | exact Hid.out (by assumption) | exact Below.refl _ _) | (with_reducible refine Below.drew ?_; (first | exact Hid.out (by assumption) | exact Below.refl _ _)) | (with_reducible refine below_drewN ?_ _; (first | exact Hid.out (by assumption) | exact Below.refl _ _))))))).mono ?_; rintro e x5 ⟨rfl, q⟩; have E5 := Lib.hid (below_then (w := w6) (by (first | (first | (first | exact Hid.out (by assumption) | exact Below.refl _ _) | (with_reducible refine Below.drew ?_; (first | exact Hid.out (by assumption) | exact Below.refl _ _)) | (with_reducible refine below_drewN ?_ _; (first | exact Hid.out (by assumption) | exact Below.refl _ _))) | (with_reducible refine below_at ?_ _; (first | (first | exact Hid.out (by assumption) | exact Below.refl _ _) | (with_reducible refine Below.drew ?_; (first | exact Hid.out (by assumption) | exact Below.refl _ _)) | (with_reducible refine below_drewN ?_ _; (first | exact Hid.out (by assumption) | exact Below.refl _ _)))) | (with_reducible refine Below.drew ?_; with_reducible refine below_at ?_ _; (first | (first | exact Hid.out (by assumption) | exact Below.refl _ _) | (with_reducible refine Below.drew ?_; (first | exact Hid.out (by assumption) | exact Below.refl _ _)) | (with_reducible refine below_drewN ?_ _; (first | exact Hid.out (by assumption) | exact Below.refl _ _)))) | (with_reducible refine below_drewN ?_ _; with_reducible refine below_at ?_ _; (first | (first | exact Hid.out (by assumption) | exact Below.refl _ _) | (with_reducible refine Below.drew ?_; (first | exact Hid.out (by assumption) | exact Below.refl _ _)) | (with_reducible refine below_drewN ?_ _; (first | exact Hid.out (by assumption) | exact Below.refl _ _)))))) q); obtain ⟨⟨f0, f1, v0, v1, v2, v3⟩, y0, y1, y2, y3⟩ := hal6.out x5 E5.out; clear q)
          | (have gg := E3; go_at_call 12; refine (hS3.out _ a7 c7 (by (first | (first | (first | exact Hid.out (by assumption) | exact Below.refl _ _) | (with_reducible refine Below.drew ?_; (first | exact Hid.out (by assumption) | exact Below.refl _ _)) | (with_reducible refine below_drewN ?_ _; (first | exact Hid.out (by assumption) | exact Below.refl _ _))) | (with_reducible refine below_at ?_ _; (first | (first | exact Hid.out (by assumption) | exact Below.refl _ _) | (with_reducible refine Below.drew ?_; (first | exact Hid.out (by assumption) | exact Below.refl _ _)) | (with_reducible refine below_drewN ?_ _; (first | exact Hid.out (by assumption) | exact Below.refl _ _)))) | (with_reducible refine Below.drew ?_; with_reducible refine below_at ?_ _; (first | (first | exact Hid.out (by assumption) | exact Below.refl _ _) | (with_reducible refine Below.drew ?_; (first | exact Hid.out (by assumption) | exact Below.refl _ _)) | (with_reducible refine below_drewN ?_ _; (first | exact Hid.out (by assumption) | exact Below.refl _ _)))) | (with_reducible refine below_drewN ?_ _; with_reducible refine below_at ?_ _; (first | (first | exact Hid.out (by assumption) | exact Below.refl _ _) | (with_reducible refine Below.drew ?_; (first | exact Hid.out (by assumption) | exact Below.refl _ _)) | (with_reducible refine below_drewN ?_ _; (first | exact Hid.out (by assumption) | exact Below.refl _ _)))))) (by first | exact S7.out | exact S7.out.drewN 1 | exact S7.out.drewN _)).mono ?_; rintro e x4 ⟨rfl, q⟩; have E4 := Lib.hid (below_then (w := w6) (by (first | (first | (first | exact Hid.out (by assumption) | exact Below.refl _ _) | (with_reducible refine Below.drew ?_; (first | exact Hid.out (by assumption) | exact Below.refl _ _)) | (with_reducible refine below_drewN ?_ _; (first | exact Hid.out (by assumption) | exact Below.refl _ _))) | (with_reducible refine below_at ?_ _; (first | (first | exact Hid.out (by assumption) | exact Below.refl _ _) | (with_reducible refine Below.drew ?_; (first | exact Hid.out (by assumption) | exact Below.refl _ _)) | (with_reducible refine below_drewN ?_ _; (first | exact Hid.out (by assumption) | exact Below.refl _ _)))) | (with_reducible refine Below.drew ?_; with_reducible refine below_at ?_ _; (first | (first | exact Hid.out (by assumption) | exact Below.refl _ _) | (with_reducible refine Below.drew ?_; (first | exact Hid.out (by assumption) | exact Below.refl _ _)) | (with_reducible refine below_drewN ?_ _; (first | exact Hid.out (by assumption) | exact Below.refl _ _)))) | (with_reducible refine below_drewN ?_ _; with_reducible refine below_at ?_ _; (first | (first | exact Hid.out (by assumption) | exact Below.refl _ _) | (with_reducible refine Below.drew ?_; (first | exact Hid.out (by assumption) | exact Below.refl _ _)) | (with_reducible refine below_drewN ?_ _; (first | exact Hid.out (by assumption) | exact Below.refl _ _)))))) q); obtain ⟨⟨f0, f1, v0, v1, v2, v3⟩, y0, y1, y2, y3⟩ := hal6.out x4 E4.out; clear q)
          | (have gg := E2; go_at_call 13; refine (hBd6.out _ (by (first | (first | (first | exact Hid.out (by assumption) | exact Below.refl _ _) | (with_reducible refine Below.drew ?_; (first | exact Hid.out (by assumption) | exact Below.refl _ _)) | (with_reducible refine below_drewN ?_ _; (first | exact Hid.out (by assumption) | exact Below.refl _ _))) | (with_reducible refine below_at ?_ _; (first | (first | exact Hid.out (by assumption) | exact Below.refl _ _) | (with_reducible refine Below.drew ?_; (first | exact Hid.out (by assumption) | exact Below.refl _ _)) | (with_reducible refine below_drewN ?_ _; (first | exact Hid.out (by assumption) | exact Below.refl _ _)))) | (with_reducible refine Below.drew ?_; with_reducible refine below_at ?_ _; (first | (first | exact Hid.out (by assumption) | exact Below.refl _ _) | (with_reducible refine Below.drew ?_; (first | exact Hid.out (by assumption) | exact Below.refl _ _)) | (with_reducible refine below_drewN ?_ _; (first | exact Hid.out (by assumption) | exact Below.refl _ _)))) | (with_reducible refine below_drewN ?_ _; with_reducible refine below_at ?_ _; (first | (first | exact Hid.out (by assumption) | exact Below.refl _ _) | (with_reducible refine Below.drew ?_; (first | exact Hid.out (by assumption) | exact Below.refl _ _)) | (with_reducible refine below_drewN ?_ _; (first | exact Hid.out (by assumption) | exact Below.refl _ _))))))).mono ?_; rintro e x3 ⟨a7, c7, rfl, s, q⟩; have E3 := Lib.hid (below_then (w := w6) (by (first | (first | (first | exact Hid.out (by assumption) | exact Below.refl _ _) | (with_reducible refine Below.drew ?_; (first | exact Hid.out (by assumption) | exact Below.refl _ _)) | (with_reducible refine below_drewN ?_ _; (first | exact Hid.out (by assumption) | exact Below.refl _ _))) | (with_reducible refine below_at ?_ _; (first | (first | exact Hid.out (by assumption) | exact Below.refl _ _) | (with_reducible refine Below.drew ?_; (first | exact Hid.out (by assumption) | exact Below.refl _ _)) | (with_reducible refine below_drewN ?_ _; (first | exact Hid.out (by assumption) | exact Below.refl _ _)))) | (with_reducible refine Below.drew ?_; with_reducible refine below_at ?_ _; (first | (first | exact Hid.out (by assumption) | exact Below.refl _ _) | (with_reducible refine Below.drew ?_; (first | exact Hid.out (by assumption) | exact Below.refl _ _)) | (with_reducible refine below_drewN ?_ _; (first | exact Hid.out (by assumption) | exact Below.refl _ _)))) | (with_reducible refine below_drewN ?_ _; with_reducible refine below_at ?_ _; (first | (first | exact Hid.out (by assumption) | exact Below.refl _ _) | (with_reducible refine Below.drew ?_; (first | exact Hid.out (by assumption) | exact Below.refl _ _)) | (with_reducible refine below_drewN ?_ _; (first | exact Hid.out (by assumption) | exact Below.refl _ _)))))) q); have S7 := Lib.hid s; obtain ⟨⟨f0, f1, v0, v1, v2, v3⟩, y0, y1, y2, y3⟩ := hal6.out x3 E3.out; clear q s)
          | (have gg := E1; go_at_call 11; refine (hCk.out _).mono ?_; rintro e x2 ⟨rfl, q⟩; have E2 := Lib.hid (below_then (w := w6) (by (first | (first | (first | exact Hid.out (by assumption) | exact Below.refl _ _) | (with_reducible refine Below.drew ?_; (first | exact Hid.out (by assumption) | exact Below.refl _ _)) | (with_reducible refine below_drewN ?_ _; (first | exact Hid.out (by assumption) | exact Below.refl _ _))) | (with_reducible refine below_at ?_ _; (first | (first | exact Hid.out (by assumption) | exact Below.refl _ _) | (with_reducible refine Below.drew ?_; (first | exact Hid.out (by assumption) | exact Below.refl _ _)) | (with_reducible refine below_drewN ?_ _; (first | exact Hid.out (by assumption) | exact Below.refl _ _)))) | (with_reducible refine Below.drew ?_; with_reducible refine below_at ?_ _; (first | (first | exact Hid.out (by assumption) | exact Below.refl _ _) | (with_reducible refine Below.drew ?_; (first | exact Hid.out (by assumption) | exact Below.refl _ _)) | (with_reducible refine below_drewN ?_ _; (first | exact Hid.out (by assumption) | exact Below.refl _ _)))) | (with_reducible refine below_drewN ?_ _; with_reducible refine below_at ?_ _; (first | (first | exact Hid.out (by assumption) | exact Below.refl _ _) | (with_reducible refine Below.drew ?_; (first | exact Hid.out (by assumption) | exact Below.refl _ _)) | (with_reducible refine below_drewN ?_ _; (first | exact Hid.out (by assumption) | exact Below.refl _ _)))))) q); obtain ⟨⟨f0, f1, v0, v1, v2, v3⟩, y0, y1, y2, y3⟩ := hal6.out x2 E2.out; clear q)
          | (go_at_call 10; refine (hS1.out _ (by (first | (first | (first | exact Hid.out (by assumption) | exact Below.refl _ _) | (with_reducible refine Below.drew ?_; (first | exact Hid.out (by assumption) | exact Below.refl _ _)) | (with_reducible refine below_drewN ?_ _; (first | exact Hid.out (by assumption) | exact Below.refl _ _))) | (with_reducible refine below_at ?_ _; (first | (first | exact Hid.out (by assumption) | exact Below.refl _ _) | (with_reducible refine Below.drew ?_; (first | exact Hid.out (by assumption) | exact Below.refl _ _)) | (with_reducible refine below_drewN ?_ _; (first | exact Hid.out (by assumption) | exact Below.refl _ _)))) | (with_reducible refine Below.drew ?_; with_reducible refine below_at ?_ _; (first | (first | exact Hid.out (by assumption) | exact Below.refl _ _) | (with_reducible refine Below.drew ?_; (first | exact Hid.out (by assumption) | exact Below.refl _ _)) | (with_reducible refine below_drewN ?_ _; (first | exact Hid.out (by assumption) | exact Below.refl _ _)))) | (with_reducible refine below_drewN ?_ _; with_reducible refine below_at ?_ _; (first | (first | exact Hid.out (by assumption) | exact Below.refl _ _) | (with_reducible refine Below.drew ?_; (first | exact Hid.out (by assumption) | exact Below.refl _ _)) | (with_reducible refine below_drewN ?_ _; (first | exact Hid.out (by assumption) | exact Below.refl _ _))))))).mono ?_; rintro e x1 ⟨rfl, q⟩; have E1 := Lib.hid (below_then (w := w6) (by (first | (first | (first | exact Hid.out (by assumption) | exact Below.refl _ _) | (with_reducible refine Below.drew ?_; (first | exact Hid.out (by assumption) | exact Below.refl _ _)) | (with_reducible refine below_drewN ?_ _; (first | exact Hid.out (by assumption) | exact Below.refl _ _))) | (with_reducible refine below_at ?_ _; (first | (first | exact Hid.out (by assumption) | exact Below.refl _ _) | (with_reducible refine Below.drew ?_; (first | exact Hid.out (by assumption) | exact Below.refl _ _)) | (with_reducible refine below_drewN ?_ _; (first | exact Hid.out (by assumption) | exact Below.refl _ _)))) | (with_reducible refine Below.drew ?_; with_reducible refine below_at ?_ _; (first | (first | exact Hid.out (by assumption) | exact Below.refl _ _) | (with_reducible refine Below.drew ?_; (first | exact Hid.out (by assumption) | exact Below.refl _ _)) | (with_reducible refine below_drewN ?_ _; (first | exact Hid.out (by assumption) | exact Below.refl _ _)))) | (with_reducible refine below_drewN ?_ _; with_reducible refine below_at ?_ _; (first | (first | exact Hid.out (by assumption) | exact Below.refl _ _) | (with_reducible refine Below.drew ?_; (first | exact Hid.out (by assumption) | exact Below.refl _ _)) | (with_reducible refine below_drewN ?_ _; (first | exact Hid.out (by assumption) | exact Below.refl _ _)))))) q); obtain ⟨⟨f0, f1, v0, v1, v2, v3⟩, y0, y1, y2, y3⟩ := hal6.out x1 E1.out; clear q))
        (try simp only [Exit.then, Exit.inBlock])
        go_wp2_with fail
        go_ret
        exact ⟨rfl, HB6.out.trans (E6.out.mono HB6.out.size)⟩
      · obtain rfl : ck = 9 := by rw [hck, if_neg (by omega)]
        have hge : ∀ z : World, (binOp .geq 3 (.int .i64 k) (.int .i64 1)).run Tryd.prog z = .ok (.bool true) z := fun z => by
          have e : decide (1 ≤ k) = true := by simp; omega
          rw [← e]; rfl
        have hle : ∀ z : World, (binOp .leq 3 (.int .i64 k) (.int .i64 10)).run Tryd.prog z = .ok (.bool false) z := fun z => by
          have e : decide (k ≤ 10) = false := by simp; omega
          rw [← e]; rfl
        have hd1 : decide (1 ≤ k) = true := by simp; omega
        have hd2 : decide (k ≤ 10) = false := by simp; omega
        clear hck h
        go_region_held3 (fun w' => w'.cell? ⟨w.heap.size, 0, none⟩ = some (.int .i64 k) ∧ w'.cell? ⟨w.heap.size, 1, none⟩ = some (.bool fl) ∧ w'.cell? ⟨w.heap.size + 1, 0, none⟩ = some (.int .u64 (u : Nat)) ∧ w'.cell? ⟨w.heap.size + 1, 1, none⟩ = some (.int .i64 i) ∧ w'.cell? ⟨w.heap.size + 1, 2, none⟩ = some (.slice a n c) ∧ w'.cell? ⟨w.heap.size + 1, 3, none⟩ = some (.bool t) ∧ w'.cell? ⟨g, 0, none⟩ = some (.int .u64 (U : Nat)) ∧ w'.cell? ⟨g, 1, none⟩ = some (.int .i64 I) ∧ w'.cell? ⟨g, 2, none⟩ = some (.slice a4 L.length c4) ∧ w'.cell? ⟨g, 3, none⟩ = some (.bool T)) (first | go_keep)
          (first
          | (have gg := E5; go_at_call 5; refine (hAl6.out _ (by (first | (first | (first | exact Hid.out (by assumption) | exact Below.refl _ _) | (with_reducible refine Below.drew ?_; (first | exact Hid.out (by assumption) | exact Below.refl _ _)) | (with_reducible refine below_drewN ?_ _; (first | exact Hid.out (by assumption) | exact Below.refl _ _))) | (with_reducible refine below_at ?_ _; (first | (first | exact Hid.out (by assumption) | exact Below.refl _ _) | (with_reducible refine Below.drew ?_; (first | exact Hid.out (by assumption) | exact Below.refl _ _)) | (with_reducible refine below_drewN ?_ _; (first | exact Hid.out (by assumption) | exact Below.refl _ _)))) | (with_reducible refine Below.drew ?_; with_reducible refine below_at ?_ _; (first | (first | exact Hid.out (by assumption) | exact Below.refl _ _) | (with_reducible refine Below.drew ?_; (first | exact Hid.out (by assumption) | exact Below.refl _ _)) | (with_reducible refine below_drewN ?_ _; (first | exact Hid.out (by assumption) | exact Below.refl _ _)))) | (with_reducible refine below_drewN ?_ _; with_reducible refine below_at ?_ _; (first | (first | exact Hid.out (by assumption) | exact Below.refl _ _) | (with_reducible refine Below.drew ?_; (first | exact Hid.out (by assumption) | exact Below.refl _ _)) | (with_reducible refine below_drewN ?_ _; (first | exact Hid.out (by assumption) | exact Below.refl _ _))))))).mono ?_; rintro e x6 ⟨rfl, q⟩; have E6 := Lib.hid (below_then (w := w6) (by (first | (first | (first | exact Hid.out (by assumption) | exact Below.refl _ _) | (with_reducible refine Below.drew ?_; (first | exact Hid.out (by assumption) | exact Below.refl _ _)) | (with_reducible refine below_drewN ?_ _; (first | exact Hid.out (by assumption) | exact Below.refl _ _))) | (with_reducible refine below_at ?_ _; (first | (first | exact Hid.out (by assumption) | exact Below.refl _ _) | (with_reducible refine Below.drew ?_; (first | exact Hid.out (by assumption) | exact Below.refl _ _)) | (with_reducible refine below_drewN ?_ _; (first | exact Hid.out (by assumption) | exact Below.refl _ _)))) | (with_reducible refine Below.drew ?_; with_reducible refine below_at ?_ _; (first | (first | exact Hid.out (by assumption) | exact Below.refl _ _) | (with_reducible refine Below.drew ?_; (first | exact Hid.out (by assumption) | exact Below.refl _ _)) | (with_reducible refine below_drewN ?_ _; (first | exact Hid.out (by assumption) | exact Below.refl _ _)))) | (with_reducible refine below_drewN ?_ _; with_reducible refine below_at ?_ _; (first | (first | exact Hid.out (by assumption) | exact Below.refl _ _) | (with_reducible refine Below.drew ?_; (first | exact Hid.out (by assumption) | exact Below.refl _ _)) | (with_reducible refine below_drewN ?_ _; (first | exact Hid.out (by assumption) | exact Below.refl _ _)))))) q); obtain ⟨⟨f0, f1, v0, v1, v2, v3⟩, y0, y1, y2, y3⟩ := hal6.out x6 E6.out; clear q)
          | (have gg := E4; go_at_call 10; refine (hS2.out _ (by (first | (first | (first | exact Hid.out (by assumption) | exact Below.refl _ _) | (with_reducible refine Below.drew ?_; (first | exact Hid.out (by assumption) | exact Below.refl _ _)) | (with_reducible refine below_drewN ?_ _; (first | exact Hid.out (by assumption) | exact Below.refl _ _))) | (with_reducible refine below_at ?_ _; (first | (first | exact Hid.out (by assumption) | exact Below.refl _ _) | (with_reducible refine Below.drew ?_; (first | exact Hid.out (by assumption) | exact Below.refl _ _)) | (with_reducible refine below_drewN ?_ _; (first | exact Hid.out (by assumption) | exact Below.refl _ _)))) | (with_reducible refine Below.drew ?_; with_reducible refine below_at ?_ _; (first | (first | exact Hid.out (by assumption) | exact Below.refl _ _) | (with_reducible refine Below.drew ?_; (first | exact Hid.out (by assumption) | exact Below.refl _ _)) | (with_reducible refine below_drewN ?_ _; (first | exact Hid.out (by assumption) | exact Below.refl _ _)))) | (with_reducible refine below_drewN ?_ _; with_reducible refine below_at ?_ _; (first | (first | exact Hid.out (by assumption) | exact Below.refl _ _) | (with_reducible refine Below.drew ?_; (first | exact Hid.out (by assumption) | exact Below.refl _ _)) | (with_reducible refine below_drewN ?_ _; (first | exact Hid.out (by assumption) | exact Below.refl _ _))))))).mono ?_; rintro e x5 ⟨rfl, q⟩; have E5 := Lib.hid (below_then (w := w6) (by (first | (first | (first | exact Hid.out (by assumption) | exact Below.refl _ _) | (with_reducible refine Below.drew ?_; (first | exact Hid.out (by assumption) | exact Below.refl _ _)) | (with_reducible refine below_drewN ?_ _; (first | exact Hid.out (by assumption) | exact Below.refl _ _))) | (with_reducible refine below_at ?_ _; (first | (first | exact Hid.out (by assumption) | exact Below.refl _ _) | (with_reducible refine Below.drew ?_; (first | exact Hid.out (by assumption) | exact Below.refl _ _)) | (with_reducible refine below_drewN ?_ _; (first | exact Hid.out (by assumption) | exact Below.refl _ _)))) | (with_reducible refine Below.drew ?_; with_reducible refine below_at ?_ _; (first | (first | exact Hid.out (by assumption) | exact Below.refl _ _) | (with_reducible refine Below.drew ?_; (first | exact Hid.out (by assumption) | exact Below.refl _ _)) | (with_reducible refine below_drewN ?_ _; (first | exact Hid.out (by assumption) | exact Below.refl _ _)))) | (with_reducible refine below_drewN ?_ _; with_reducible refine below_at ?_ _; (first | (first | exact Hid.out (by assumption) | exact Below.refl _ _) | (with_reducible refine Below.drew ?_; (first | exact Hid.out (by assumption) | exact Below.refl _ _)) | (with_reducible refine below_drewN ?_ _; (first | exact Hid.out (by assumption) | exact Below.refl _ _)))))) q); obtain ⟨⟨f0, f1, v0, v1, v2, v3⟩, y0, y1, y2, y3⟩ := hal6.out x5 E5.out; clear q)
          | (have gg := E3; go_at_call 12; refine (hS3.out _ a7 c7 (by (first | (first | (first | exact Hid.out (by assumption) | exact Below.refl _ _) | (with_reducible refine Below.drew ?_; (first | exact Hid.out (by assumption) | exact Below.refl _ _)) | (with_reducible refine below_drewN ?_ _; (first | exact Hid.out (by assumption) | exact Below.refl _ _))) | (with_reducible refine below_at ?_ _; (first | (first | exact Hid.out (by assumption) | exact Below.refl _ _) | (with_reducible refine Below.drew ?_; (first | exact Hid.out (by assumption) | exact Below.refl _ _)) | (with_reducible refine below_drewN ?_ _; (first | exact Hid.out (by assumption) | exact Below.refl _ _)))) | (with_reducible refine Below.drew ?_; with_reducible refine below_at ?_ _; (first | (first | exact Hid.out (by assumption) | exact Below.refl _ _) | (with_reducible refine Below.drew ?_; (first | exact Hid.out (by assumption) | exact Below.refl _ _)) | (with_reducible refine below_drewN ?_ _; (first | exact Hid.out (by assumption) | exact Below.refl _ _)))) | (with_reducible refine below_drewN ?_ _; with_reducible refine below_at ?_ _; (first | (first | exact Hid.out (by assumption) | exact Below.refl _ _) | (with_reducible refine Below.drew ?_; (first | exact Hid.out (by assumption) | exact Below.refl _ _)) | (with_reducible refine below_drewN ?_ _; (first | exact Hid.out (by assumption) | exact Below.refl _ _)))))) (by first | exact S7.out | exact S7.out.drewN 1 | exact S7.out.drewN _)).mono ?_; rintro e x4 ⟨rfl, q⟩; have E4 := Lib.hid (below_then (w := w6) (by (first | (first | (first | exact Hid.out (by assumption) | exact Below.refl _ _) | (with_reducible refine Below.drew ?_; (first | exact Hid.out (by assumption) | exact Below.refl _ _)) | (with_reducible refine below_drewN ?_ _; (first | exact Hid.out (by assumption) | exact Below.refl _ _))) | (with_reducible refine below_at ?_ _; (first | (first | exact Hid.out (by assumption) | exact Below.refl _ _) | (with_reducible refine Below.drew ?_; (first | exact Hid.out (by assumption) | exact Below.refl _ _)) | (with_reducible refine below_drewN ?_ _; (first | exact Hid.out (by assumption) | exact Below.refl _ _)))) | (with_reducible refine Below.drew ?_; with_reducible refine below_at ?_ _; (first | (first | exact Hid.out (by assumption) | exact Below.refl _ _) | (with_reducible refine Below.drew ?_; (first | exact Hid.out (by assumption) | exact Below.refl _ _)) | (with_reducible refine below_drewN ?_ _; (first | exact Hid.out (by assumption) | exact Below.refl _ _)))) | (with_reducible refine below_drewN ?_ _; with_reducible refine below_at ?_ _; (first | (first | exact Hid.out (by assumption) | exact Below.refl _ _) | (with_reducible refine Below.drew ?_; (first | exact Hid.out (by assumption) | exact Below.refl _ _)) | (with_reducible refine below_drewN ?_ _; (first | exact Hid.out (by assumption) | exact Below.refl _ _)))))) q); obtain ⟨⟨f0, f1, v0, v1, v2, v3⟩, y0, y1, y2, y3⟩ := hal6.out x4 E4.out; clear q)
          | (have gg := E2; go_at_call 13; refine (hBd6.out _ (by (first | (first | (first | exact Hid.out (by assumption) | exact Below.refl _ _) | (with_reducible refine Below.drew ?_; (first | exact Hid.out (by assumption) | exact Below.refl _ _)) | (with_reducible refine below_drewN ?_ _; (first | exact Hid.out (by assumption) | exact Below.refl _ _))) | (with_reducible refine below_at ?_ _; (first | (first | exact Hid.out (by assumption) | exact Below.refl _ _) | (with_reducible refine Below.drew ?_; (first | exact Hid.out (by assumption) | exact Below.refl _ _)) | (with_reducible refine below_drewN ?_ _; (first | exact Hid.out (by assumption) | exact Below.refl _ _)))) | (with_reducible refine Below.drew ?_; with_reducible refine below_at ?_ _; (first | (first | exact Hid.out (by assumption) | exact Below.refl _ _) | (with_reducible refine Below.drew ?_; (first | exact Hid.out (by assumption) | exact Below.refl _ _)) | (with_reducible refine below_drewN ?_ _; (first | exact Hid.out (by assumption) | exact Below.refl _ _)))) | (with_reducible refine below_drewN ?_ _; with_reducible refine below_at ?_ _; (first | (first | exact Hid.out (by assumption) | exact Below.refl _ _) | (with_reducible refine Below.drew ?_; (first | exact Hid.out (by assumption) | exact Below.refl _ _)) | (with_reducible refine below_drewN ?_ _; (first | exact Hid.out (by assumption) | exact Below.refl _ _))))))).mono ?_; rintro e x3 ⟨a7, c7, rfl, s, q⟩; have E3 := Lib.hid (below_then (w := w6) (by (first | (first | (first | exact Hid.out (by assumption) | exact Below.refl _ _) | (with_reducible refine Below.drew ?_; (first | exact Hid.out (by assumption) | exact Below.refl _ _)) | (with_reducible refine below_drewN ?_ _; (first | exact Hid.out (by assumption) | exact Below.refl _ _))) | (with_reducible refine below_at ?_ _; (first | (first | exact Hid.out (by assumption) | exact Below.refl _ _) | (with_reducible refine Below.drew ?_; (first | exact Hid.out (by assumption) | exact Below.refl _ _)) | (with_reducible refine below_drewN ?_ _; (first | exact Hid.out (by assumption) | exact Below.refl _ _)))) | (with_reducible refine Below.drew ?_; with_reducible refine below_at ?_ _; (first | (first | exact Hid.out (by assumption) | exact Below.refl _ _) | (with_reducible refine Below.drew ?_; (first | exact Hid.out (by assumption) | exact Below.refl _ _)) | (with_reducible refine below_drewN ?_ _; (first | exact Hid.out (by assumption) | exact Below.refl _ _)))) | (with_reducible refine below_drewN ?_ _; with_reducible refine below_at ?_ _; (first | (first | exact Hid.out (by assumption) | exact Below.refl _ _) | (with_reducible refine Below.drew ?_; (first | exact Hid.out (by assumption) | exact Below.refl _ _)) | (with_reducible refine below_drewN ?_ _; (first | exact Hid.out (by assumption) | exact Below.refl _ _)))))) q); have S7 := Lib.hid s; obtain ⟨⟨f0, f1, v0, v1, v2, v3⟩, y0, y1, y2, y3⟩ := hal6.out x3 E3.out; clear q s)
          | (have gg := E1; go_at_call 11; refine (hCk.out _).mono ?_; rintro e x2 ⟨rfl, q⟩; have E2 := Lib.hid (below_then (w := w6) (by (first | (first | (first | exact Hid.out (by assumption) | exact Below.refl _ _) | (with_reducible refine Below.drew ?_; (first | exact Hid.out (by assumption) | exact Below.refl _ _)) | (with_reducible refine below_drewN ?_ _; (first | exact Hid.out (by assumption) | exact Below.refl _ _))) | (with_reducible refine below_at ?_ _; (first | (first | exact Hid.out (by assumption) | exact Below.refl _ _) | (with_reducible refine Below.drew ?_; (first | exact Hid.out (by assumption) | exact Below.refl _ _)) | (with_reducible refine below_drewN ?_ _; (first | exact Hid.out (by assumption) | exact Below.refl _ _)))) | (with_reducible refine Below.drew ?_; with_reducible refine below_at ?_ _; (first | (first | exact Hid.out (by assumption) | exact Below.refl _ _) | (with_reducible refine Below.drew ?_; (first | exact Hid.out (by assumption) | exact Below.refl _ _)) | (with_reducible refine below_drewN ?_ _; (first | exact Hid.out (by assumption) | exact Below.refl _ _)))) | (with_reducible refine below_drewN ?_ _; with_reducible refine below_at ?_ _; (first | (first | exact Hid.out (by assumption) | exact Below.refl _ _) | (with_reducible refine Below.drew ?_; (first | exact Hid.out (by assumption) | exact Below.refl _ _)) | (with_reducible refine below_drewN ?_ _; (first | exact Hid.out (by assumption) | exact Below.refl _ _)))))) q); obtain ⟨⟨f0, f1, v0, v1, v2, v3⟩, y0, y1, y2, y3⟩ := hal6.out x2 E2.out; clear q)
          | (go_at_call 10; refine (hS1.out _ (by (first | (first | (first | exact Hid.out (by assumption) | exact Below.refl _ _) | (with_reducible refine Below.drew ?_; (first | exact Hid.out (by assumption) | exact Below.refl _ _)) | (with_reducible refine below_drewN ?_ _; (first | exact Hid.out (by assumption) | exact Below.refl _ _))) | (with_reducible refine below_at ?_ _; (first | (first | exact Hid.out (by assumption) | exact Below.refl _ _) | (with_reducible refine Below.drew ?_; (first | exact Hid.out (by assumption) | exact Below.refl _ _)) | (with_reducible refine below_drewN ?_ _; (first | exact Hid.out (by assumption) | exact Below.refl _ _)))) | (with_reducible refine Below.drew ?_; with_reducible refine below_at ?_ _; (first | (first | exact Hid.out (by assumption) | exact Below.refl _ _) | (with_reducible refine Below.drew ?_; (first | exact Hid.out (by assumption) | exact Below.refl _ _)) | (with_reducible refine below_drewN ?_ _; (first | exact Hid.out (by assumption) | exact Below.refl _ _)))) | (with_reducible refine below_drewN ?_ _; with_reducible refine below_at ?_ _; (first | (first | exact Hid.out (by assumption) | exact Below.refl _ _) | (with_reducible refine Below.drew ?_; (first | exact Hid.out (by assumption) | exact Below.refl _ _)) | (with_reducible refine below_drewN ?_ _; (first | exact Hid.out (by assumption) | exact Below.refl _ _))))))).mono ?_; rintro e x1 ⟨rfl, q⟩; have E1 := Lib.hid (below_then (w := w6) (by (first | (first | (first | exact Hid.out (by assumption) | exact Below.refl _ _) | (with_reducible refine Below.drew ?_; (first | exact Hid.out (by assumption) | exact Below.refl _ _)) | (with_reducible refine below_drewN ?_ _; (first | exact Hid.out (by assumption) | exact Below.refl _ _))) | (with_reducible refine below_at ?_ _; (first | (first | exact Hid.out (by assumption) | exact Below.refl _ _) | (with_reducible refine Below.drew ?_; (first | exact Hid.out (by assumption) | exact Below.refl _ _)) | (with_reducible refine below_drewN ?_ _; (first | exact Hid.out (by assumption) | exact Below.refl _ _)))) | (with_reducible refine Below.drew ?_; with_reducible refine below_at ?_ _; (first | (first | exact Hid.out (by assumption) | exact Below.refl _ _) | (with_reducible refine Below.drew ?_; (first | exact Hid.out (by assumption) | exact Below.refl _ _)) | (with_reducible refine below_drewN ?_ _; (first | exact Hid.out (by assumption) | exact Below.refl _ _)))) | (with_reducible refine below_drewN ?_ _; with_reducible refine below_at ?_ _; (first | (first | exact Hid.out (by assumption) | exact Below.refl _ _) | (with_reducible refine Below.drew ?_; (first | exact Hid.out (by assumption) | exact Below.refl _ _)) | (with_reducible refine below_drewN ?_ _; (first | exact Hid.out (by assumption) | exact Below.refl _ _)))))) q); obtain ⟨⟨f0, f1, v0, v1, v2, v3⟩, y0, y1, y2, y3⟩ := hal6.out x1 E1.out; clear q))
        (try simp only [Exit.then, Exit.inBlock])
        go_wp2_with fail
        go_ret
        exact ⟨rfl, HB6.out.trans (E6.out.mono HB6.out.size)⟩
end Go.Proofs.YtbmefmfogdjecaaDoor
