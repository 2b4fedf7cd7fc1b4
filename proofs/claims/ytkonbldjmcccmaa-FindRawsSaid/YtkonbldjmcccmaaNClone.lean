/- bytes.Clone of bytes that came in, or were made. -/
import Derived.Test.YtkonbldjmcccmaaKBytes
import Derived.Lib.SliceRun
set_option linter.unusedVariables false
set_option linter.unusedSimpArgs false
namespace Go.Proofs.Ytkonbldjmcccmaa
open Go.RowKit
def u8T : Nat := 5
def bV (bs : List Nat) : List Value := bs.map fun b => .int .u8 (b : Nat)
theorem bV_get (bs : List Nat) (j : Nat) : (bV bs)[j]? = bs[j]?.map fun b => Value.int .u8 (b : Nat) := by simp [bV]
theorem bV_one (bs : List Nat) : ∀ u ∈ bV bs, u.oneCell' = true := by
  intro u hu; simp only [bV, List.mem_map] at hu; obtain ⟨b, _, rfl⟩ := hu; rfl
theorem cloneB_under : Try.prog.underlying 27 = some (.slice 5) := by kernel_rfl
theorem cloneB_info : (Try.prog.info? 5).map (fun i => (i.zero, i.size, i.bytes)) = some (some (.int .u8 0), 1, 1) := by kernel_rfl
set_option maxRecDepth 100000 in
theorem cloneB_any (w : World) (a : Option Addr) (n c : Nat) (bs : List Nat) (hn : bs.length = n) (hb : BytesAt w a bs) (hl : n ≤ 140737488355328) (hnil : a = none → n = 0) : Calls Try.prog 95 #[.slice a n c] w (clonePost 5 (bV bs) w) := by
  have q1 : ∀ (w : World) (a : Option Addr) (n c n' c' : Nat), (binOp .eql 27 (.slice a n c) (.slice none n' c')).run Try.prog w = .ok (.bool a.isNone) w := fun w a n c n' c' => Lib.run_eql_slice_nil w _ _ a n c n' c' cloneB_under
  cases a with
  | none =>
    obtain rfl : n = 0 := hnil rfl
    obtain rfl : bs = [] := List.eq_nil_of_length_eq_zero hn
    have hR : clonePost 5 [] w (.returned (.slice none 0 0)) w := ⟨_, none, rfl, Own.nil _ _, Below.refl _ _, Or.inl rfl⟩
    clear hn hb hl hnil
    go_enter Try.func95, Try.ntmps95
    go_wp2_with fail
    go_ret
    exact hR
  | some p =>
    have Hr : Hid (∀ o, ∀ j u, (bV bs)[j]? = some u → (w.alloc o).cell? (p.add j) = some u) := fun o j u hj => by
      rw [bV_get] at hj
      have hj2 : j < bs.length := by
        by_cases h : j < bs.length
        · exact h
        · rw [List.getElem?_eq_none (by omega)] at hj; simp at hj
      rw [List.getElem?_eq_getElem hj2] at hj
      simp only [Option.map_some, Option.some.injEq] at hj
      subst hj
      obtain ⟨p', hp, h1, h2⟩ := hb.2 j hj2
      obtain rfl : p = p' := by simpa using hp
      rw [((Below.refl _ w).alloc (Nat.le_refl _) o).cell h1, h2]
      simp [List.getD, hj2]
    have H1 := Lib.hid (bV_one bs)
    have hlen : Hid ((bV bs).length = n) := by show _ = _; simp [bV, hn]
    have hb1 : Hid (([] : List Value).length + n ≤ maxLen) := by show _ ≤ _; simp only [maxLen, List.length_nil]; omega
    have hb2 : Hid ((([] : List Value).length + n) * 1 ≤ 140737488355328) := by show _ ≤ _; simp only [List.length_nil]; omega
    clear hn hb hl hnil
    go_enter Try.func95, Try.ntmps95
    go_wp2_with (at_builtin; go_loud (refine wpList_append_at rfl (.tmp 5) (.tmp 6) 27 rfl 5 (.int .u8 0) 1 cloneB_under cloneB_info rfl _ rfl [] (some w.heap.size) (Own.fresh0 _ _) p n c (bV bs) rfl hlen.out (Hr.out _) H1.out hb1.out hb2.out ?_); intro v1 w1 bo1 HO HM HN)
    go_ret
    exact clone_end HO.out HM.out HN.out
end Go.Proofs.Ytkonbldjmcccmaa
