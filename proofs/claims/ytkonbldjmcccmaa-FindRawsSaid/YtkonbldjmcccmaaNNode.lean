/- Nodes: what they are in memory; the calls that only read. -/
import Derived.Test.YtkonbldjmcccmaaNNil
import Derived.Test.YtkonbldjmcccmaaNClone
set_option linter.unusedVariables false
set_option linter.unusedSimpArgs false
namespace Go.Proofs.Ytkonbldjmcccmaa
open Go.RowKit
abbrev ndT : Nat := 107
/-- a node's kids: none of a leaf -/
def KidsOf (w : World) (kp : Option Addr) (kk : Option KV) (Sk : Nat → Prop) : Prop :=
  (kp = none ∧ kk = none ∧ Sk = fun _ => False) ∨ ∃ k l, kp = some ⟨k, 0, none⟩ ∧ kk = some l ∧ N.KdAt w k (kindOf l.length) l Sk ∧ N.Vals l
/-- a node at block n: W is what it writes, R its part's array, that is read only -/
structure NdIs (w : World) (n : Nat) (o : Int) (bs : List Nat) (val : Int) (has : Bool) (kk : Option KV) (pv : Value) (bo : Option Nat) (kp : Option Addr) (Sk : Nat → Prop) : Prop where
  blk : w.heap[n]? = some (.cells [.int .u64 o, pv, .int .u64 val, .bool has, .pointer kp].toArray ndT (0, 0))
  own : Own 5 w pv (bV bs) bo
  kids : KidsOf w kp kk Sk
  nS : ¬ Sk n
  nR : ∀ g, bo = some g → g ≠ n ∧ ¬ Sk g
def klen (kk : Option KV) : Nat := (kk.getD []).length
def kkind (kk : Option KV) : Nat := match kk with | none => 0 | some l => kindOf l.length
section
variable {w : World} {n : Nat} {o : Int} {bs : List Nat} {val : Int} {has : Bool} {kk : Option KV} {pv : Value} {bo : Option Nat} {kp : Option Addr} {Sk : Nat → Prop}
theorem NdIs.c0 (h : NdIs w n o bs val has kk pv bo kp Sk) : w.cell? ⟨n, 0, none⟩ = some (.int .u64 o) := by rw [cell_of_blk h.blk]; rfl
theorem NdIs.c1 (h : NdIs w n o bs val has kk pv bo kp Sk) : w.cell? ⟨n, 1, none⟩ = some pv := by rw [cell_of_blk h.blk]; rfl
theorem NdIs.c2 (h : NdIs w n o bs val has kk pv bo kp Sk) : w.cell? ⟨n, 2, none⟩ = some (.int .u64 val) := by rw [cell_of_blk h.blk]; rfl
theorem NdIs.c3 (h : NdIs w n o bs val has kk pv bo kp Sk) : w.cell? ⟨n, 3, none⟩ = some (.bool has) := by rw [cell_of_blk h.blk]; rfl
theorem NdIs.c4 (h : NdIs w n o bs val has kk pv bo kp Sk) : w.cell? ⟨n, 4, none⟩ = some (.pointer kp) := by rw [cell_of_blk h.blk]; rfl
theorem KidsOf.keep {w' : World} (h : KidsOf w kp kk Sk) (hk : ∀ j, Sk j → w'.heap[j]? = w.heap[j]?) : KidsOf w' kp kk Sk := by
  rcases h with h | ⟨k, l, h1, h2, h3, h4⟩
  · exact Or.inl h
  · exact Or.inr ⟨k, l, h1, h2, h3.keep hk, h4⟩
theorem NdIs.keep {w' : World} (h : NdIs w n o bs val has kk pv bo kp Sk) (hn : w'.heap[n]? = w.heap[n]?) (hS : ∀ j, Sk j → w'.heap[j]? = w.heap[j]?) (hR : ∀ j, bo = some j → w'.heap[j]? = w.heap[j]?) : NdIs w' n o bs val has kk pv bo kp Sk :=
  ⟨hn.trans h.blk, h.own.keep hR, h.kids.keep hS, h.nS, h.nR⟩
theorem NdIs.drewN (h : NdIs w n o bs val has kk pv bo kp Sk) (m : Nat) : NdIs (w.drewN m) n o bs val has kk pv bo kp Sk := h.keep rfl (fun _ _ => rfl) (fun _ _ => rfl)
theorem ko_len (h : KidsOf w kp kk Sk) : Calls Try.prog 101 #[.pointer kp] w fun e w' => e = .returned (.int .i64 (klen kk : Nat)) ∧ w = w' := by
  rcases h with ⟨rfl, rfl, _⟩ | ⟨k, l, rfl, rfl, h3, h4⟩
  · exact N.bare_len (Or.inl rfl)
  · exact N.kd_len h3
theorem ko_kind (h : KidsOf w kp kk Sk) : Calls Try.prog 100 #[.pointer kp] w fun e w' => e = .returned (.int .i64 (kkind kk : Nat)) ∧ w = w' := by
  rcases h with ⟨rfl, rfl, _⟩ | ⟨k, l, rfl, rfl, h3, h4⟩
  · exact N.bare_kind (Or.inl rfl)
  · exact N.kd_kind h3
theorem ko_get (h : KidsOf w kp kk Sk) (b : Nat) (hb : b < 256) : Calls Try.prog 90 #[.pointer kp, .int .u8 b] w fun e w' => e = .returned (N.getV (kget (kk.getD []) b)) ∧ ∃ n, w' = w.drewN n := by
  rcases h with ⟨rfl, rfl, _⟩ | ⟨k, l, rfl, rfl, h3, h4⟩
  · refine (N.bare_get (Or.inl rfl) b).mono ?_
    rintro e w' ⟨rfl, rfl⟩
    exact ⟨rfl, 0, rfl⟩
  · exact N.kd_get h3 b hb
theorem ko_next (h : KidsOf w kp kk Sk) (f : Int) (hlo : -9223372036854775808 ≤ f) (hhi : f ≤ 9223372036854775807) : Calls Try.prog 88 #[.pointer kp, .int .i64 f] w fun e w' => e = .returned (N.atV (knxt (kk.getD []) f)) ∧ ∃ n, w' = w.drewN n := by
  rcases h with ⟨rfl, rfl, _⟩ | ⟨k, l, rfl, rfl, h3, h4⟩
  · refine (N.bare_next (Or.inl rfl) f).mono ?_
    rintro e w' ⟨rfl, rfl⟩
    exact ⟨rfl, 0, rfl⟩
  · exact N.kd_next h3 f hlo hhi
theorem ko_prev (h : KidsOf w kp kk Sk) (f : Int) (hlo : -9223372036854775808 ≤ f) (hhi : f ≤ 9223372036854775807) : Calls Try.prog 89 #[.pointer kp, .int .i64 f] w fun e w' => e = .returned (N.atV (kprv (kk.getD []) f)) ∧ ∃ n, w' = w.drewN n := by
  rcases h with ⟨rfl, rfl, _⟩ | ⟨k, l, rfl, rfl, h3, h4⟩
  · refine (N.bare_prev (Or.inl rfl) f).mono ?_
    rintro e w' ⟨rfl, rfl⟩
    exact ⟨rfl, 0, rfl⟩
  · exact N.kd_prev h3 f hlo hhi
theorem nd_owner (h : NdIs w n o bs val has kk pv bo kp Sk) : Calls Try.prog 33 #[.pointer (some ⟨n, 0, none⟩)] w fun e w' => e = .returned (.int .u64 o) ∧ w = w' := by
  have c0 := h.c0
  clear h
  go_enter Try.func33, Try.ntmps33
  go_wp2_with fail
  go_ret
  exact ⟨rfl, rfl⟩
theorem nd_val (h : NdIs w n o bs val has kk pv bo kp Sk) : Calls Try.prog 17 #[.pointer (some ⟨n, 0, none⟩)] w fun e w' => e = .returned (if has then .tuple #[.int .u64 val, .bool true] else .tuple #[.int .u64 0, .bool false]) ∧ w = w' := by
  have c2 := h.c2
  have c3 := h.c3
  clear h
  cases has with
  | true =>
    go_enter Try.func17, Try.ntmps17
    go_wp2_with fail
    go_ret2
    exact ⟨rfl, rfl⟩
  | false =>
    go_enter Try.func17, Try.ntmps17
    go_wp2_with fail
    go_ret2
    exact ⟨rfl, rfl⟩
theorem nd_len (h : NdIs w n o bs val has kk pv bo kp Sk) : Calls Try.prog 30 #[.pointer (some ⟨n, 0, none⟩)] w fun e w' => e = .returned (.int .i64 (klen kk : Nat)) ∧ w = w' := by
  have c4 := h.c4
  have hx := Lib.hid (ko_len h.kids)
  clear h
  go_enter Try.func30, Try.ntmps30
  go_wp2_with (go_at_call 101; refine hx.out.mono ?_; rintro e w' ⟨rfl, rfl⟩)
  go_ret
  exact ⟨rfl, rfl⟩
theorem nd_kid (h : NdIs w n o bs val has kk pv bo kp Sk) (b : Nat) (hb : b < 256) : Calls Try.prog 20 #[.pointer (some ⟨n, 0, none⟩), .int .u8 b] w fun e w' => e = .returned ((kget (kk.getD []) b).getD (.pointer none)) ∧ ∃ n, w' = w.drewN n := by
  have c4 := h.c4
  have hx := Lib.hid (ko_get h.kids b hb)
  clear h
  have ht : ∃ a1 a2, Hid (N.getV (kget (kk.getD []) b) = .tuple #[a1, a2]) ∧ Hid ((kget (kk.getD []) b).getD (.pointer none) = a1) := by
    cases kget (kk.getD []) b with
    | none => exact ⟨_, _, rfl, rfl⟩
    | some v => exact ⟨_, _, rfl, rfl⟩
  obtain ⟨a1, a2, H1, H2⟩ := ht
  rw [H2.out]
  generalize N.getV (kget (kk.getD []) b) = V at *
  go_enter Try.func20, Try.ntmps20
  go_wp2_with (go_at_call 90; refine hx.out.mono ?_; rintro e w' ⟨rfl, nd, rfl⟩; rw [H1.out])
  go_ret
  exact ⟨rfl, nd, rfl⟩
end
end Go.Proofs.Ytkonbldjmcccmaa
