/- Arguments of rows: bytes with their reach, arrays and structs that hold them. -/
import Derived.Test.YthifjldmhfpkhaaRows
import Derived.Test.YthifjldmhfpkhaaNFrz
import Derived.WalkKit
import Derived.ProofKit
import Derived.OpenShut
import Derived.ShutString
import Derived.ChangeOld
import Derived.Below
import Derived.SizedLaws
import Derived.Lib.SmallJoins
set_option linter.unusedVariables false
set_option linter.unusedSimpArgs false
namespace Go.Proofs.Ythifjldmhfpkhaa
open Go.ChangeShapes Go.WideShapes Go.ChangeAt Go.RowKit
def Row8 (w : World) (a : Option Addr) (len cap : Nat) (zs : List Int) : Prop :=
  (a = none ∧ len = 0 ∧ cap = 0 ∧ zs = []) ∨
  ∃ x, a = some x ∧ len ≤ cap ∧ cap ≤ maxLen ∧ zs.length = cap ∧ (∀ i, i < zs.length → w.cell? (x.add i) = some (.int .u8 (zs.getD i 0))) ∧ ∀ n ∈ zs, (Lit.int .u8 n).wf = true
theorem Row8.in8 {w : World} {a : Option Addr} {n c : Nat} {zs : List Int} (h : Row8 w a n c zs) (hc : c ≤ reachBytes) : ∃ bs, In8 w a n c bs := by
  obtain ⟨bs, h1, h2, h3, h4⟩ := bytes_of h n (Nat.le_refl _)
  refine ⟨bs, h1, h4, by have := reachBytes_lt; omega, fun e => ?_⟩
  rcases h with ⟨_, h, _⟩ | ⟨x, h, _⟩
  · exact h
  · rw [e] at h; cases h
section
variable {H : Type} {enc : TypeId × Value → H} {w : World} {base : Nat} {held : Bool}
theorem open_b8 {fuel : Nat} {cs : List Value} {x : DataW H × List MemPlace} (h : DataW.trod enc Try.prog w base (fun _ => true) held fuel 26 cs = some x) (hz : (x.1.weights Try.prog 26).all (· ≤ reachBytes) = true) :
    ∃ a len cap zs, cs = [.slice a len cap] ∧ Row8 w a len cap zs ∧ cap ≤ reachBytes := by
  rcases open_ints Try.underlying26 Try.underlying5 (by kernel_rfl) h with ⟨rfl, rfl⟩ | ⟨a, l, c, zs, rfl, _, hl, hm, hlen, rfl, hcell, hw⟩
  · exact ⟨none, 0, 0, [], rfl, Or.inl ⟨rfl, rfl, rfl, rfl⟩, Nat.zero_le _⟩
  · have hlen' : zs.length = c := by simpa using hlen
    have hb : Try.prog.bytesOf 5 = 1 := by kernel_rfl
    refine ⟨some a, l, c, zs, rfl, Or.inr ⟨a, rfl, hl, hm, hlen', hcell, hw⟩, ?_⟩
    simp only [DataW.weights, Try.underlying26, hb, List.all_cons, Bool.and_eq_true, decide_eq_true_eq, lits, List.length_map, List.length_take, List.length_drop] at hz
    have := hz.1
    omega
theorem weights_at {P : Program} {ts : List TypeId} {ds : List (DataW H)} {j : Nat} {t : TypeId} {d : DataW H} (h : (DataW.weightsEach P ts ds).all (· ≤ reachBytes) = true) (ht : ts[j]? = some t) (hd : ds[j]? = some d) : (d.weights P t).all (· ≤ reachBytes) = true :=
  List.all_eq_true.2 fun n hn => List.all_eq_true.1 h n (DataW.weights_mem_each ht hd n hn)
theorem okWide_arr' {P : Program} {r : Reach} {b0 n : Nat} {t e : TypeId} {v : Value} (ht : P.underlying t = some (.array n e)) (h : Value.okWide P w r b0 t v) : ∃ cs, v = .agg cs ∧ cs.size = P.cellsOf t := by
  simp only [Value.okWide, ht] at h
  obtain ⟨cs, h1, h2, _⟩ := h
  exact ⟨cs, h1, h2⟩
theorem array5 {α : Type} {cs : Array α} (h : cs.size = 5) : ∃ c0 c1 c2 c3 c4, cs = #[c0, c1, c2, c3, c4] := by
  obtain ⟨l⟩ := cs
  match l, h with
  | [c0, c1, c2, c3, c4], _ => exact ⟨c0, c1, c2, c3, c4, rfl⟩
/-- two numbers side by side -/
theorem open_u2c {spare : Nat → Bool} {fuel : Nat} {c0 c1 : Value} {x : DataW H × List MemPlace} (h : DataW.trod enc Try.prog w base spare held fuel 59 [c0, c1] = some x) :
    ∃ m n : Int, c0 = .int .u64 m ∧ c1 = .int .u64 n ∧ (Lit.int .u64 m).wf = true ∧ (Lit.int .u64 n).wf = true := by
  obtain ⟨xs, m, rfl, _, _, hl, hx⟩ := DataW.trod_array Try.underlying59 h
  have hc : Try.prog.cellsOf 58 = 1 := by kernel_rfl
  rw [hc] at hx
  match xs, hl with
  | [y0, y1], _ =>
    have h0 := hx 0 (by omega)
    have h1 := hx 1 (by omega)
    simp at h0 h1
    obtain ⟨p, e0, _, w0⟩ := DataW.trod_int Try.underlying58 h0
    obtain ⟨q, e1, _, w1⟩ := DataW.trod_int Try.underlying58 h1
    simp at e0 e1
    exact ⟨p, q, e0, e1, w0, w1⟩
set_option maxRecDepth 100000 in
theorem open_u2 {r : Reach} {b0 : Nat} {spare : Nat → Bool} {v : Value} {d : DataW H} {ps : List MemPlace} (hv : Value.okWide Try.prog w r b0 59 v) (h : DataW.Trod enc Try.prog w base spare held 59 v d ps) :
    ∃ m n : Int, v = .agg #[.int .u64 m, .int .u64 n] ∧ (Lit.int .u64 m).wf = true ∧ (Lit.int .u64 n).wf = true := by
  obtain ⟨cs, rfl, hsz⟩ := okWide_arr' Try.underlying59 hv
  have hc : Try.prog.cellsOf 59 = 2 := by kernel_rfl
  obtain ⟨c0, c1, rfl⟩ := Joins.array2 (hsz.trans hc)
  obtain ⟨fuel, hf⟩ := h
  obtain ⟨m, n, rfl, rfl, w0, w1⟩ := open_u2c (show DataW.trod enc Try.prog w base spare held fuel 59 [c0, c1] = some (d, ps) from hf)
  exact ⟨m, n, rfl, w0, w1⟩
set_option maxRecDepth 100000 in
/-- NodeFrozen's last argument -/
theorem open_try {r : Reach} {b0 : Nat} {v : Value} {d : DataW H} {ps : List MemPlace} (hv : Value.okWide Try.prog w r b0 61 v) (h : DataW.Trod enc Try.prog w base (fun _ => true) held 61 v d ps) (hz : (d.weights Try.prog 61).all (· ≤ reachBytes) = true) :
    ∃ a1 n1 c1 z1 a2 n2 c2 x0 x1 b, v = .agg #[.slice a1 n1 c1, .slice a2 n2 c2, .int .u64 x0, .int .u64 x1, .int .u8 b] ∧ Row8 w a1 n1 c1 z1 ∧ c1 ≤ reachBytes ∧ (Lit.int .u8 b).wf = true := by
  obtain ⟨cs, rfl, hsz⟩ := okWide_struct Try.underlying61 hv
  have hc : Try.prog.cellsOf 61 = 5 := by kernel_rfl
  have hc8 : Try.prog.cellsOf 26 = 1 := by kernel_rfl
  have hcu : Try.prog.cellsOf 5 = 1 := by kernel_rfl
  have hc2 : Try.prog.cellsOf 59 = 2 := by kernel_rfl
  obtain ⟨k0, k1, k2, k3, k4, rfl⟩ := array5 (hsz.trans hc)
  obtain ⟨fuel, hf⟩ := h
  obtain ⟨y0, y1, y2, y3, m, hx, _, h0, h1, h2, h3⟩ := Joins.trod_struct4 Try.underlying61 hf
  simp only [Prod.mk.injEq] at hx
  obtain ⟨rfl, rfl⟩ := hx
  simp [hc8, hcu, hc2, Value.cells] at h0 h1 h2 h3
  simp only [DataW.weights, Try.underlying61] at hz
  have z0 := weights_at hz (j := 0) rfl rfl
  have z1 := weights_at hz (j := 1) rfl rfl
  obtain ⟨a1, n1, c1, zs1, e0, r0, q0⟩ := open_b8 h0 z0
  obtain ⟨a2, n2, c2, zs2, e1, r1, q1⟩ := open_b8 h1 z1
  obtain ⟨m0, m1, rfl, rfl, _, _⟩ := open_u2c h2
  obtain ⟨bb, e3, _, w3⟩ := DataW.trod_int Try.underlying5 h3
  simp at e0 e1 e3
  subst e0; subst e1; subst e3
  exact ⟨_, _, _, _, _, _, _, _, _, _, rfl, r0, q0, w3⟩
end
end Go.Proofs.Ythifjldmhfpkhaa
