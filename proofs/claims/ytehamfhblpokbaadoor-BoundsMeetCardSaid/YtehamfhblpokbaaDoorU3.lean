/- Spans: Empty, Same; the law's same and far. -/
import Derived.Test.YtehamfhblpokbaaDoorU2
set_option linter.unusedVariables false
set_option linter.unusedSimpArgs false
namespace Go.Proofs.YtehamfhblpokbaaDoor
open Go.RowKit
theorem ks {w : World} {a b : Option Addr} {n c m d : Nat} {s t : List Nat} (h : Sl w a n c s) (k : Sl w b m d t) (q : Nat) : Calls Tryd.prog 35 #[.slice a n c, .slice b m d] (w.drewN q) fun e w' => e = .returned (.bool (decide (s = t))) ∧ ∃ p, w' = (w.drewN q).drewN p :=
  (keys_same (h.drewN q) (k.drewN q)).mono fun e w' ⟨a, b⟩ => ⟨a, 0, b.symm⟩
theorem kc {w : World} {a b : Option Addr} {n c m d : Nat} {s t : List Nat} (h : Sl w a n c s) (k : Sl w b m d t) (q : Nat) : Calls Tryd.prog 34 #[.slice a n c, .slice b m d] (w.drewN q) fun e w' => e = .returned (.int .i64 (bcmp s t)) ∧ ∃ p, w' = (w.drewN q).drewN p :=
  (keys_cmp (h.drewN q) (k.drewN q)).mono fun e w' ⟨a, b⟩ => ⟨a, 0, b.symm⟩
section
variable {w : World} {a1 a2 a3 a4 a0 : Option Addr} {n0 c0 n1 c1 n2 c2 n3 c3 n4 c4 : Nat} {k f t f' t' : List Nat}
theorem b_empty (h1 : Sl w a1 n1 c1 f) (h2 : Sl w a2 n2 c2 t) (o : Bool) : Calls Tryd.prog 14 #[.agg #[.slice a1 n1 c1, .slice a2 n2 c2, .bool o]] w (belowPost (.bool (!o && decide (0 ≤ bcmp f t))) w) := by
  have hb := below_al w (.cells #[.slice a1 n1 c1, .slice a2 n2 c2, .bool o] bsT)
  have hC := Lib.hid (kc (h1.below hb) (h2.below hb) 0)
  have hbd := Lib.hid (fun q => below_drewN hb q)
  have hb := Lib.hid hb
  generalize bcmp f t = V at *
  clear h1 h2
  cases o with
  | true =>
    go_enter Tryd.func14, Tryd.ntmps14
    go_wp2_with fail
    go_ret
    exact ⟨rfl, hb.out⟩
  | false =>
    go_enter Tryd.func14, Tryd.ntmps14
    go_wp2_with (go_at_call 34; refine hC.out.mono ?_; rintro e w' ⟨rfl, q, rfl⟩)
    go_ret
    exact ⟨by simp, hbd.out _⟩
theorem r_empty (h1 : Sl w a1 n1 c1 f) (h2 : Sl w a2 n2 c2 t) (o : Bool) : Calls Tryd.prog 15 #[.agg #[.slice a1 n1 c1, .slice a2 n2 c2, .bool o]] w (belowPost (.bool (!o && decide (bcmp t f ≤ 0))) w) := by
  have hb := below_al w (.cells #[.slice a1 n1 c1, .slice a2 n2 c2, .bool o] rsT)
  have hC := Lib.hid (quiet_cmp (h2.below hb) (h1.below hb) 0)
  have hbd := Lib.hid (fun q => below_drewN hb q)
  have hb := Lib.hid hb
  generalize bcmp t f = V at *
  clear h1 h2
  cases o with
  | true =>
    go_enter Tryd.func15, Tryd.ntmps15
    go_wp2_with fail
    go_ret
    exact ⟨rfl, hb.out⟩
  | false =>
    go_enter Tryd.func15, Tryd.ntmps15
    go_wp2_with (go_at_call 33; refine hC.out.mono ?_; rintro e w' ⟨rfl, q, rfl⟩)
    go_ret
    exact ⟨by simp, hbd.out _⟩
theorem b_same (h1 : Sl w a1 n1 c1 f) (h2 : Sl w a2 n2 c2 t) (o : Bool) (h3 : Sl w a3 n3 c3 f') (h4 : Sl w a4 n4 c4 t') (o' : Bool) : Calls Tryd.prog 16 #[.agg #[.slice a1 n1 c1, .slice a2 n2 c2, .bool o], .agg #[.slice a3 n3 c3, .slice a4 n4 c4, .bool o']] w (belowPost (.bool (decide (f = f') && (o == o' && (o || decide (t = t'))))) w) := by
  have hb := below_al2 w (.cells #[.slice a1 n1 c1, .slice a2 n2 c2, .bool o] bsT) (.cells #[.slice a3 n3 c3, .slice a4 n4 c4, .bool o'] bsT)
  have hC := ks (h1.below hb) (h3.below hb) 0
  have hD := fun q => ks (h2.below hb) (h4.below hb) q
  have hbd := Lib.hid (fun q => below_drewN hb q)
  have hb := Lib.hid hb
  generalize decide (f = f') = V at *
  generalize decide (t = t') = U at *
  have hC := Lib.hid hC
  have hD := Lib.hid hD
  clear h1 h2 h3 h4
  cases V <;> cases o <;> cases o'
  all_goals
    go_enter Tryd.func16, Tryd.ntmps16
    go_wp2_with (first
        | (go_at_call 35; refine hE.out.mono ?_; rintro e w' ⟨rfl, p, rfl⟩)
        | (go_at_call 35; refine hC.out.mono ?_; rintro e w' ⟨rfl, q, rfl⟩; have hE := Lib.hid (hD.out q)))
    go_ret
    exact ⟨by simp, hbd.out _⟩

theorem r_same (h1 : Sl w a1 n1 c1 f) (h2 : Sl w a2 n2 c2 t) (o : Bool) (h3 : Sl w a3 n3 c3 f') (h4 : Sl w a4 n4 c4 t') (o' : Bool) : Calls Tryd.prog 17 #[.agg #[.slice a1 n1 c1, .slice a2 n2 c2, .bool o], .agg #[.slice a3 n3 c3, .slice a4 n4 c4, .bool o']] w (belowPost (.bool (decide (f = f') && (o == o' && (o || decide (t = t'))))) w) := by
  have hb := below_al2 w (.cells #[.slice a1 n1 c1, .slice a2 n2 c2, .bool o] rsT) (.cells #[.slice a3 n3 c3, .slice a4 n4 c4, .bool o'] rsT)
  have hC := quiet_same (h1.below hb) (h3.below hb) 0
  have hD := fun q => quiet_same (h2.below hb) (h4.below hb) q
  have hbd := Lib.hid (fun q => below_drewN hb q)
  have hb := Lib.hid hb
  generalize decide (f = f') = V at *
  generalize decide (t = t') = U at *
  have hC := Lib.hid hC
  have hD := Lib.hid hD
  clear h1 h2 h3 h4
  cases V <;> cases o <;> cases o'
  all_goals
    go_enter Tryd.func17, Tryd.ntmps17
    go_wp2_with (first
        | (go_at_call 29; refine hE.out.mono ?_; rintro e w' ⟨rfl, p, rfl⟩)
        | (go_at_call 29; refine hC.out.mono ?_; rintro e w' ⟨rfl, q, rfl⟩; have hE := Lib.hid (hD.out q)))
    go_ret
    exact ⟨by simp, hbd.out _⟩
theorem law_same (h1 : Sl w a1 n1 c1 f) (h2 : Sl w a2 n2 c2 t) (o : Bool) (h3 : Sl w a3 n3 c3 f') (h4 : Sl w a4 n4 c4 t') (o' : Bool) : Calls Tryd.prog 8 #[.agg #[.slice a1 n1 c1, .slice a2 n2 c2, .bool o], .agg #[.slice a3 n3 c3, .slice a4 n4 c4, .bool o']] w (belowPost (.bool (decide (f = f') && (decide (t = t') && o == o'))) w) := by
  have hb := below_al2 w (.cells #[.slice a1 n1 c1, .slice a2 n2 c2, .bool o] bsT) (.cells #[.slice a3 n3 c3, .slice a4 n4 c4, .bool o'] rsT)
  have hC := quiet_same (h1.below hb) (h3.below hb) 0
  have hD := fun q => quiet_same (h2.below hb) (h4.below hb) q
  have hbd := Lib.hid (fun q => below_drewN hb q)
  have hb := Lib.hid hb
  generalize decide (f = f') = V at *
  generalize decide (t = t') = U at *
  have hC := Lib.hid hC
  have hD := Lib.hid hD
  clear h1 h2 h3 h4
  cases V <;> cases U <;> cases o <;> cases o'
  all_goals
    go_enter Tryd.func8, Tryd.ntmps8
    go_wp2_with (first
        | (go_at_call 29; refine hE.out.mono ?_; rintro e w' ⟨rfl, p, rfl⟩)
        | (go_at_call 29; refine hC.out.mono ?_; rintro e w' ⟨rfl, q, rfl⟩; have hE := Lib.hid (hD.out q)))
    go_ret
    exact ⟨by simp, hbd.out _⟩
end
end Go.Proofs.YtehamfhblpokbaaDoor
