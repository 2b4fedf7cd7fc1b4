/- Arguments of rows: two slices of bytes side by side in an array. -/
import Derived.Test.YthifjldmhfpkhaaRKit
set_option linter.unusedVariables false
set_option linter.unusedSimpArgs false
namespace Go.Proofs.Ythifjldmhfpkhaa
open Go.ChangeShapes Go.WideShapes Go.ChangeAt Go.RowKit
section
variable {H : Type} {enc : TypeId × Value → H} {w : World} {base : Nat} {held : Bool}
set_option maxRecDepth 100000 in
theorem open_bb {r : Reach} {b0 : Nat} {v : Value} {d : DataW H} {ps : List MemPlace} (hv : Value.okWide Try.prog w r b0 76 v) (h : DataW.Trod enc Try.prog w base (fun _ => true) held 76 v d ps) (hz : (d.weights Try.prog 76).all (· ≤ reachBytes) = true) :
    ∃ a1 n1 c1 z1 a2 n2 c2 z2, v = .agg #[.slice a1 n1 c1, .slice a2 n2 c2] ∧ Row8 w a1 n1 c1 z1 ∧ c1 ≤ reachBytes ∧ Row8 w a2 n2 c2 z2 ∧ c2 ≤ reachBytes := by
  obtain ⟨cs, rfl, hsz⟩ := okWide_arr' Try.underlying76 hv
  have hc : Try.prog.cellsOf 76 = 2 := by kernel_rfl
  have hc8 : Try.prog.cellsOf 26 = 1 := by kernel_rfl
  obtain ⟨k0, k1, rfl⟩ := Joins.array2 (hsz.trans hc)
  obtain ⟨fuel, hf⟩ := h
  obtain ⟨xs, m, rfl, hx, _, hl, hg⟩ := DataW.trod_array Try.underlying76 hf
  rw [hc8] at hg
  match xs, hl with
  | [y0, y1], _ =>
    have h0 := hg 0 (by omega)
    have h1 := hg 1 (by omega)
    simp [Value.cells] at h0 h1
    simp only [Prod.mk.injEq] at hx
    obtain ⟨rfl, rfl⟩ := hx
    simp only [DataW.weights, Try.underlying76, List.map_cons, List.map_nil, DataW.weightsAll, List.all_append, Bool.and_eq_true] at hz
    obtain ⟨a1, n1, c1, zs1, e0, r0, q0⟩ := open_b8 h0 hz.1
    obtain ⟨a2, n2, c2, zs2, e1, r1, q1⟩ := open_b8 h1 hz.2.1
    simp at e0 e1
    subst e0; subst e1
    exact ⟨_, _, _, _, _, _, _, _, rfl, r0, q0, r1, q1⟩
end
end Go.Proofs.Ythifjldmhfpkhaa
