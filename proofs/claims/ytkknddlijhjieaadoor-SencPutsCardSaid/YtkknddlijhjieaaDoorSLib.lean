/- The library's searches at bytes that are told by natural numbers. -/
import Derived.Test.YtkknddlijhjieaaDoorSRep
import Derived.Test.YtkknddlijhjieaaDoorShelf
import Derived.Shelf.Bytes.SlSplitNil
set_option linter.unusedVariables false
set_option linter.unusedSimpArgs false
namespace Go.Proofs.YtkknddlijhjieaaDoor
open Go.RowKit
def Zs (s : List Nat) : List Int := s.map fun b => ((b : Nat) : Int)
theorem bytesOf_nat (s : List Nat) : Lib.bytesOf (Zs s) = U s := by
  unfold Lib.bytesOf Zs U
  rw [List.map_map]
  rfl
theorem getD_nat (s : List Nat) (i : Nat) : (Zs s).getD i 0 = ((s.getD i 0 : Nat) : Int) := by
  unfold Zs
  simp only [List.getD, List.getElem?_map]
  cases s[i]? <;> rfl
theorem Zs_lt {s : List Nat} (h : ∀ x ∈ s, x < 256) : ∀ x ∈ Zs s, 0 ≤ x ∧ x < 256 := fun x hx => by
  obtain ⟨b, hb, rfl⟩ := List.mem_map.1 hx
  have := h b hb
  omega
theorem BytesAt.ints {w : World} {p : Addr} {s : List Nat} (h : BytesAt w (some p) s) : ∀ i, i < s.length → w.cell? (p.add i) = some (.int .u8 ((Zs s).getD i 0)) := fun i hi => by
  obtain ⟨q, hq, _, h2⟩ := h.2 i hi
  obtain rfl : p = q := by simpa using hq
  rw [h2, getD_nat]
/-- the library's variable MaxLen holds some number -/
def MaxAt (w : World) (m : Int) : Prop := w.cell? ⟨0, 0, none⟩ = some (.int .i64 m)
theorem MaxAt.below {w w' : World} {m : Int} (h : MaxAt w m) (hb : Below w.heap.size w w') : MaxAt w' m := (hb.cell (p := ⟨0, 0, none⟩) (cell_lt h)).trans h
theorem MaxAt.drewN {w : World} {m : Int} (h : MaxAt w m) (n : Nat) : MaxAt (w.drewN n) m := h
section
variable {w : World} {m : Int}
theorem lib_index (hM : MaxAt w m) (a1 a2 : Addr) (n c1 k c2 : Nat) (s o : List Nat) (h1 : BytesAt w (some a1) s) (h2 : BytesAt w (some a2) o) (l1 : s.length = n) (l2 : o.length = k) (hc : n ≤ c1) (hn : n < 4294967281) (hk : k ≤ 9223372036854775807) : Calls Tryd.prog 24 #[.slice (some a1) n c1, .slice (some a2) k c2] w fun e w' => e = .returned (.int .i64 (nidx s o)) ∧ ∃ q, w' = w.drewN q := by
  have := Any.bytes_Index_at Tryd.layIndex a1 a2 n c1 k c2 (Zs s) (Zs o) m w (by simp [Zs, l1]) (by simp [Zs, l2]) (Zs_lt h1.1) (Zs_lt h2.1) (fun i hi => h1.ints i (by omega)) (fun i hi => h2.ints i (by omega)) hc hn hk hM
  rw [bytesOf_nat, bytesOf_nat] at this
  exact this
theorem lib_count (hM : MaxAt w m) (a1 : Option Addr) (g2 : Nat) (n c1 k c2 : Nat) (s o : List Nat) (h1 : BytesAt w a1 s) (h2 : BytesAt w (some ⟨g2, 0, none⟩) o) (l1 : s.length = n) (l2 : o.length = k) (hc : n ≤ c1) (hn : n < 4294967281) (hk : k ≤ 9223372036854775807) (hk1 : 1 ≤ k) (hnil : a1 = none → n = 0 ∧ c1 = 0) : Calls Tryd.prog 17 #[.slice a1 n c1, .slice (some ⟨g2, 0, none⟩) k c2] w fun e w' => e = .returned (.int .i64 (ncnt s o : Nat)) ∧ ∃ q, w' = w.drewN q := by
  cases a1 with
  | some a1 =>
    have := Any.bytes_Count_any Tryd.layCount a1 ⟨g2, 0, none⟩ n c1 k c2 (Zs s) (Zs o) m w (by simp [Zs, l1]) (by simp [Zs, l2]) (Zs_lt h1.1) (Zs_lt h2.1) (fun i hi => h1.ints i (by omega)) (fun i hi => h2.ints i (by omega)) hc hn hk hk1 hM
    rw [bytesOf_nat, bytesOf_nat] at this
    exact this
  | none =>
    obtain ⟨rfl, rfl⟩ := hnil rfl
    obtain rfl : s = [] := List.eq_nil_of_length_eq_zero l1
    have e0 : ncnt [] o = 0 := by
      cases o with
      | nil => simp at l2; omega
      | cons x o => exact ncnt_miss rfl
    rw [e0]
    have hc := h2.ints 0 (by omega)
    have hc' : w.cell? ⟨g2, 0, none⟩ = some (.int .u8 ((Zs o).getD 0 0)) := by simpa [Addr.add] using hc
    exact (Any.bytes_Count_nil_any Tryd.layCount (some ⟨g2, 0, none⟩) k c2 w hk1 hk (fun _ => ⟨g2, 0, _, rfl, hc'⟩)).mono fun e w' q => ⟨q.1, 0, q.2⟩
end
end Go.Proofs.YtkknddlijhjieaaDoor
