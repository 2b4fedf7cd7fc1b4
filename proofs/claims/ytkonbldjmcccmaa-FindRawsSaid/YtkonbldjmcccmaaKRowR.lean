/- Rows: the calls that only read. -/
import Derived.Test.YtkonbldjmcccmaaKRow
set_option linter.unusedVariables false
set_option linter.unusedSimpArgs false
namespace Go.Proofs.Ytkonbldjmcccmaa
open Go.RowKit
namespace I
abbrev rowT : Nat := 183
theorem ok_nil (w : World) : Calls Try.prog 183 #[.pointer none] w fun e w' => e = .returned (.bool false) ∧ w = w' := by
  go_enter Try.func183, Try.ntmps183
  go_wp2_with fail
  go_ret
  exact ⟨rfl, rfl⟩
theorem ok_yes (w : World) (r rm : Nat) (hc : w.cell? ⟨r, 0, none⟩ = some (.int .i64 rm)) (h : 0 < rm) : Calls Try.prog 183 #[.pointer (some ⟨r, 0, none⟩)] w fun e w' => e = .returned (.bool true) ∧ w = w' := by
  go_enter Try.func183, Try.ntmps183
  go_wp2_with fail
  go_ret
  exact ⟨rfl, rfl⟩
variable {w : World} {r rm : Nat} {l : KV} {B X : List Value}
theorem row_len (h : RowIs rowT w r rm l B X) : Calls Try.prog 142 #[.pointer (some ⟨r, 0, none⟩)] w fun e w' => e = .returned (.int .i64 l.length) ∧ w = w' := by
  have c0 := h.c0
  have c1 := h.c1
  have hr := h.r1
  clear h
  go_enter Try.func142, Try.ntmps142
  go_wp2_with (go_at_call 183; refine (ok_yes _ _ _ c0 hr).mono ?_; rintro e w' ⟨rfl, rfl⟩)
  go_ret
  exact ⟨rfl, rfl⟩
theorem row_room (h : RowIs rowT w r rm l B X) : Calls Try.prog 134 #[.pointer (some ⟨r, 0, none⟩)] w fun e w' => e = .returned (.int .i64 rm) ∧ w = w' := by
  have c0 := h.c0
  have hr := h.r1
  clear h
  go_enter Try.func134, Try.ntmps134
  go_wp2_with (go_at_call 183; refine (ok_yes _ _ _ c0 hr).mono ?_; rintro e w' ⟨rfl, rfl⟩)
  go_ret
  exact ⟨rfl, rfl⟩
set_option maxHeartbeats 800000 in
theorem row_place (h : RowIs rowT w r rm l B X) (b : Nat) : Calls Try.prog 188 #[.pointer (some ⟨r, 0, none⟩), .int .u8 b] w fun e w' => e = .returned (.tuple #[.int .i64 (pl l b : Nat), .bool (has l b)]) ∧ ∃ n, w' = w.drewN n := by
  have c1 := h.c1
  have h16 : (l.length : Int) ≤ 16 := by have := h.n16; omega
  have hbs : ∀ (n : Nat), Hid (Calls Try.prog 207 #[.slice (some ⟨r, 2, none⟩) l.length 16, .int .u8 b] (w.drewN n) fun e w' => e = .returned (.tuple #[.int .i64 (pl l b : Nat), .bool (has l b)]) ∧ w' = w.drewN n) :=
    fun n => bs_is r 2 _ 16 l b (w.drewN n) rfl (by have := h.n16; omega) h.srt h.cb
  clear h
  go_enter Try.func188, Try.ntmps188
  go_wp2_with fail
  go_quiet ((go_at_call 207; exact Calls.quiet_of_same (hbs _).out))
  go_wp2_with fail
  go_ret2
  exact ⟨rfl, nq, rfl⟩
/-- what stands at place j, as the calls tell it -/
def atV (o : Option (Nat × Value)) : Value := match o with
  | some p => .tuple #[.int .u8 (p.1 : Nat), p.2, .bool true]
  | none => .tuple #[.int .u8 0, (.int .i64 0), .bool false]
set_option maxHeartbeats 800000 in
theorem row_at (h : RowIs rowT w r rm l B X) (i : Int) (hi : -1 ≤ i) (hi2 : i ≤ 16) : Calls Try.prog 210 #[.pointer (some ⟨r, 0, none⟩), .int .i64 i] w fun e w' => e = .returned (atV (if i < 0 then none else l[i.toNat]?)) ∧ ∃ n, w' = w.drewN n := by
  have c1 := h.c1
  have h16 := h.n16
  generalize hV : atV (if i < 0 then none else l[i.toNat]?) = V
  by_cases h0 : i < 0
  · have hR : Hid (V = .tuple #[.int .u8 0, (.int .i64 0), .bool false]) := by show _ = _; rw [← hV, if_pos h0]; rfl
    clear h hV
    go_enter Try.func210, Try.ntmps210
    go_wp2_with fail
    go_ret3
    exact ⟨congrArg Ending.returned hR.out.symm, 0, rfl⟩
  · obtain ⟨j, rfl⟩ := Int.eq_ofNat_of_zero_le (show 0 ≤ i by omega)
    by_cases h1 : j < l.length
    · have hb := h.cb j h1
      have hx := h.cx j h1 (0, undef)
      obtain ⟨k, v, hk, hv, hkv⟩ : ∃ k v, l.keys.getD j 0 = k ∧ (l.getD j (0, undef)).2 = v ∧ Hid (V = .tuple #[.int .u8 (k : Nat), v, .bool true]) := by
        refine ⟨_, _, rfl, rfl, ?_⟩
        show _ = _
        rw [← hV, if_neg h0, Int.toNat_natCast, List.getElem?_eq_getElem h1]
        simp [atV, KV.keys, List.getD, List.getElem?_map, List.getElem?_eq_getElem h1]
      rw [hk] at hb
      rw [hv] at hx
      clear h hk hv hV
      go_enter Try.func210, Try.ntmps210
      go_wp2_with fail
      go_quiet (fail)
      go_wp2_with fail
      go_ret3
      exact ⟨congrArg Ending.returned hkv.out.symm, nq, rfl⟩
    · have hR : Hid (V = .tuple #[.int .u8 0, (.int .i64 0), .bool false]) := by
        show _ = _
        rw [← hV, if_neg h0, Int.toNat_natCast, List.getElem?_eq_none (by omega)]; rfl
      clear h hV
      go_enter Try.func210, Try.ntmps210
      go_wp2_with fail
      go_ret3
      exact ⟨congrArg Ending.returned hR.out.symm, 0, rfl⟩
/-- what Get tells -/
def getV (o : Option Value) : Value := match o with
  | some v => .tuple #[v, .bool true]
  | none => .tuple #[(.int .i64 0), .bool false]
set_option maxHeartbeats 800000 in
theorem row_get (h : RowIs rowT w r rm l B X) (b : Nat) : Calls Try.prog 138 #[.pointer (some ⟨r, 0, none⟩), .int .u8 b] w fun e w' => e = .returned (getV (kget l b)) ∧ ∃ n, w' = w.drewN n := by
  have c0 := h.c0
  have hr := h.r1
  have h16 := h.n16
  have hp : Hid (Calls Try.prog 188 #[.pointer (some ⟨r, 0, none⟩), .int .u8 b] w fun e w' => e = .returned (.tuple #[.int .i64 (pl l b : Nat), .bool (has l b)]) ∧ ∃ n, w' = w.drewN n) := row_place h b
  have hle := pl_le l b
  generalize hV : getV (kget l b) = V
  cases hh : has l b with
  | true =>
    obtain ⟨h1, h2⟩ := has_yes hh
    have hx := h.cx (pl l b) h1 (0, undef)
    have hR : Hid (V = .tuple #[(l.getD (pl l b) (0, undef)).2, .bool true]) := by show _ = _; rw [← hV, get_yes h.srt hh (0, undef)]; rfl
    obtain ⟨v, hv⟩ : ∃ v, (l.getD (pl l b) (0, undef)).2 = v := ⟨_, rfl⟩
    rw [hv] at hx hR
    rw [hh] at hp
    generalize pl l b = j at *
    clear h h2 hv hh hV
    go_enter Try.func138, Try.ntmps138
    go_wp2_with (first | (go_at_call 183; refine (ok_yes _ _ _ c0 hr).mono ?_; rintro e w' ⟨rfl, rfl⟩) | (go_at_call 188; refine hp.out.mono ?_; rintro e w' ⟨rfl, nd, rfl⟩))
    go_ret2
    exact ⟨congrArg Ending.returned hR.out.symm, nd, rfl⟩
  | false =>
    have hR : Hid (V = .tuple #[(.int .i64 0), .bool false]) := by show _ = _; rw [← hV, get_no h.srt hh]; rfl
    rw [hh] at hp
    generalize pl l b = j at *
    clear h hh hV
    go_enter Try.func138, Try.ntmps138
    go_wp2_with (first | (go_at_call 183; refine (ok_yes _ _ _ c0 hr).mono ?_; rintro e w' ⟨rfl, rfl⟩) | (go_at_call 188; refine hp.out.mono ?_; rintro e w' ⟨rfl, nd, rfl⟩))
    go_ret2
    exact ⟨congrArg Ending.returned hR.out.symm, nd, rfl⟩
theorem row_next_high (h : RowIs rowT w r rm l B X) (f : Int) (hf : 255 < f) : Calls Try.prog 204 #[.pointer (some ⟨r, 0, none⟩), .int .i64 f] w fun e w' => e = .returned (atV (knxt l f)) ∧ ∃ n, w' = w.drewN n := by
  have c0 := h.c0
  have hr := h.r1
  rw [nxt_high h.low hf]
  have hV : Hid (atV none = .tuple #[.int .u8 0, (.int .i64 0), .bool false]) := rfl
  generalize atV none = V at *
  clear h
  go_enter Try.func204, Try.ntmps204
  go_wp2_with (go_at_call 183; refine (ok_yes _ _ _ c0 hr).mono ?_; rintro e w' ⟨rfl, rfl⟩)
  go_ret3
  exact ⟨congrArg Ending.returned hV.out.symm, 0, rfl⟩
/-- behind a place: a byte, a thing, and whether -/
def trip (V a b c : Value) : Prop := V = .tuple #[a, b, c]
theorem atV_trip (o : Option (Nat × Value)) : ∃ a b c, trip (atV o) a b c := by
  cases o with
  | none => exact ⟨_, _, _, rfl⟩
  | some p => exact ⟨_, _, _, rfl⟩
set_option maxHeartbeats 800000 in
theorem row_next (h : RowIs rowT w r rm l B X) (f : Int) (hlo : -9223372036854775808 ≤ f) (hhi : f ≤ 9223372036854775807) : Calls Try.prog 204 #[.pointer (some ⟨r, 0, none⟩), .int .i64 f] w fun e w' => e = .returned (atV (knxt l f)) ∧ ∃ n, w' = w.drewN n := by
  by_cases hf : 255 < f
  · exact row_next_high h f hf
  · have c0 := h.c0
    have hr := h.r1
    have hle : Hid (pl l f.toNat ≤ 16) := by have := pl_le l f.toNat; have := h.n16; show _ ≤ _; omega
    have hp : Hid (Calls Try.prog 188 #[.pointer (some ⟨r, 0, none⟩), .int .u8 f.toNat] w fun e w' => e = .returned (.tuple #[.int .i64 (pl l f.toNat : Nat), .bool (has l f.toNat)]) ∧ ∃ n, w' = w.drewN n) := row_place h f.toNat
    have ha : ∀ n, Hid (Calls Try.prog 210 #[.pointer (some ⟨r, 0, none⟩), .int .i64 (pl l f.toNat : Nat)] (w.drewN n) fun e w' => e = .returned (atV (knxt l f)) ∧ ∃ m, w' = (w.drewN n).drewN m) := fun n => by
      have := row_at (h.keep (w' := w.drewN n) rfl) (pl l f.toNat : Nat) (by omega) (by have := hle.out; omega)
      rw [if_neg (by omega), Int.toNat_natCast, ← nxt_pl h.srt, show knxt l (f.toNat : Nat) = knxt l f from by
        by_cases h0 : 0 ≤ f
        · rw [Int.toNat_of_nonneg h0]
        · rw [nxt_neg l (f := f) (by omega)]; congr 1; omega] at this
      exact this
    obtain ⟨a, b, c, ht⟩ := atV_trip (knxt l f)
    have Ht := Lib.hid ht
    clear ht
    generalize atV (knxt l f) = V at *
    generalize pl l f.toNat = j at *
    generalize has l f.toNat = yes at *
    clear h
    by_cases h0 : 0 ≤ f
    · obtain ⟨g, rfl⟩ := Int.eq_ofNat_of_zero_le h0
      rw [Int.toNat_natCast] at hp
      clear h0
      go_enter Try.func204, Try.ntmps204
      go_wp2_with (first | (go_at_call 183; refine (ok_yes _ _ _ c0 hr).mono ?_; rintro e w' ⟨rfl, rfl⟩) | (go_at_call 188; refine hp.out.mono ?_; rintro e w' ⟨rfl, nd, rfl⟩) | (go_at_call 210; refine (ha _).out.mono ?_; rintro e w' ⟨rfl, ne, rfl⟩; rw [Ht.out]))
      go_ret3
      exact ⟨congrArg Ending.returned Ht.out.symm, nd + ne, by simp⟩
    · have hp0 : Hid (Calls Try.prog 188 #[.pointer (some ⟨r, 0, none⟩), .int .u8 0] w fun e w' => e = .returned (.tuple #[.int .i64 (j : Nat), .bool yes]) ∧ ∃ n, w' = w.drewN n) := by
        have := hp.out
        rw [show f.toNat = 0 from by omega] at this
        exact this
      clear hp
      go_enter Try.func204, Try.ntmps204
      go_wp2_with (first | (go_at_call 183; refine (ok_yes _ _ _ c0 hr).mono ?_; rintro e w' ⟨rfl, rfl⟩) | (go_at_call 188; refine hp0.out.mono ?_; rintro e w' ⟨rfl, nd, rfl⟩) | (go_at_call 210; refine (ha _).out.mono ?_; rintro e w' ⟨rfl, ne, rfl⟩; rw [Ht.out]))
      go_ret3
      exact ⟨congrArg Ending.returned Ht.out.symm, nd + ne, by simp⟩
end I

namespace N
abbrev rowT : Nat := 195
theorem ok_nil (w : World) : Calls Try.prog 191 #[.pointer none] w fun e w' => e = .returned (.bool false) ∧ w = w' := by
  go_enter Try.func191, Try.ntmps191
  go_wp2_with fail
  go_ret
  exact ⟨rfl, rfl⟩
theorem ok_yes (w : World) (r rm : Nat) (hc : w.cell? ⟨r, 0, none⟩ = some (.int .i64 rm)) (h : 0 < rm) : Calls Try.prog 191 #[.pointer (some ⟨r, 0, none⟩)] w fun e w' => e = .returned (.bool true) ∧ w = w' := by
  go_enter Try.func191, Try.ntmps191
  go_wp2_with fail
  go_ret
  exact ⟨rfl, rfl⟩
variable {w : World} {r rm : Nat} {l : KV} {B X : List Value}
theorem row_len (h : RowIs rowT w r rm l B X) : Calls Try.prog 163 #[.pointer (some ⟨r, 0, none⟩)] w fun e w' => e = .returned (.int .i64 l.length) ∧ w = w' := by
  have c0 := h.c0
  have c1 := h.c1
  have hr := h.r1
  clear h
  go_enter Try.func163, Try.ntmps163
  go_wp2_with (go_at_call 191; refine (ok_yes _ _ _ c0 hr).mono ?_; rintro e w' ⟨rfl, rfl⟩)
  go_ret
  exact ⟨rfl, rfl⟩
theorem row_room (h : RowIs rowT w r rm l B X) : Calls Try.prog 161 #[.pointer (some ⟨r, 0, none⟩)] w fun e w' => e = .returned (.int .i64 rm) ∧ w = w' := by
  have c0 := h.c0
  have hr := h.r1
  clear h
  go_enter Try.func161, Try.ntmps161
  go_wp2_with (go_at_call 191; refine (ok_yes _ _ _ c0 hr).mono ?_; rintro e w' ⟨rfl, rfl⟩)
  go_ret
  exact ⟨rfl, rfl⟩
set_option maxHeartbeats 800000 in
theorem row_place (h : RowIs rowT w r rm l B X) (b : Nat) : Calls Try.prog 192 #[.pointer (some ⟨r, 0, none⟩), .int .u8 b] w fun e w' => e = .returned (.tuple #[.int .i64 (pl l b : Nat), .bool (has l b)]) ∧ ∃ n, w' = w.drewN n := by
  have c1 := h.c1
  have h16 : (l.length : Int) ≤ 16 := by have := h.n16; omega
  have hbs : ∀ (n : Nat), Hid (Calls Try.prog 207 #[.slice (some ⟨r, 2, none⟩) l.length 16, .int .u8 b] (w.drewN n) fun e w' => e = .returned (.tuple #[.int .i64 (pl l b : Nat), .bool (has l b)]) ∧ w' = w.drewN n) :=
    fun n => bs_is r 2 _ 16 l b (w.drewN n) rfl (by have := h.n16; omega) h.srt h.cb
  clear h
  go_enter Try.func192, Try.ntmps192
  go_wp2_with fail
  go_quiet ((go_at_call 207; exact Calls.quiet_of_same (hbs _).out))
  go_wp2_with fail
  go_ret2
  exact ⟨rfl, nq, rfl⟩
/-- what stands at place j, as the calls tell it -/
def atV (o : Option (Nat × Value)) : Value := match o with
  | some p => .tuple #[.int .u8 (p.1 : Nat), p.2, .bool true]
  | none => .tuple #[.int .u8 0, (.pointer none), .bool false]
set_option maxHeartbeats 800000 in
theorem row_at (h : RowIs rowT w r rm l B X) (i : Int) (hi : -1 ≤ i) (hi2 : i ≤ 16) : Calls Try.prog 193 #[.pointer (some ⟨r, 0, none⟩), .int .i64 i] w fun e w' => e = .returned (atV (if i < 0 then none else l[i.toNat]?)) ∧ ∃ n, w' = w.drewN n := by
  have c1 := h.c1
  have h16 := h.n16
  generalize hV : atV (if i < 0 then none else l[i.toNat]?) = V
  by_cases h0 : i < 0
  · have hR : Hid (V = .tuple #[.int .u8 0, (.pointer none), .bool false]) := by show _ = _; rw [← hV, if_pos h0]; rfl
    clear h hV
    go_enter Try.func193, Try.ntmps193
    go_wp2_with fail
    go_ret3
    exact ⟨congrArg Ending.returned hR.out.symm, 0, rfl⟩
  · obtain ⟨j, rfl⟩ := Int.eq_ofNat_of_zero_le (show 0 ≤ i by omega)
    by_cases h1 : j < l.length
    · have hb := h.cb j h1
      have hx := h.cx j h1 (0, undef)
      obtain ⟨k, v, hk, hv, hkv⟩ : ∃ k v, l.keys.getD j 0 = k ∧ (l.getD j (0, undef)).2 = v ∧ Hid (V = .tuple #[.int .u8 (k : Nat), v, .bool true]) := by
        refine ⟨_, _, rfl, rfl, ?_⟩
        show _ = _
        rw [← hV, if_neg h0, Int.toNat_natCast, List.getElem?_eq_getElem h1]
        simp [atV, KV.keys, List.getD, List.getElem?_map, List.getElem?_eq_getElem h1]
      rw [hk] at hb
      rw [hv] at hx
      clear h hk hv hV
      go_enter Try.func193, Try.ntmps193
      go_wp2_with fail
      go_quiet (fail)
      go_wp2_with fail
      go_ret3
      exact ⟨congrArg Ending.returned hkv.out.symm, nq, rfl⟩
    · have hR : Hid (V = .tuple #[.int .u8 0, (.pointer none), .bool false]) := by
        show _ = _
        rw [← hV, if_neg h0, Int.toNat_natCast, List.getElem?_eq_none (by omega)]; rfl
      clear h hV
      go_enter Try.func193, Try.ntmps193
      go_wp2_with fail
      go_ret3
      exact ⟨congrArg Ending.returned hR.out.symm, 0, rfl⟩
/-- what Get tells -/
def getV (o : Option Value) : Value := match o with
  | some v => .tuple #[v, .bool true]
  | none => .tuple #[(.pointer none), .bool false]
set_option maxHeartbeats 800000 in
theorem row_get (h : RowIs rowT w r rm l B X) (b : Nat) : Calls Try.prog 151 #[.pointer (some ⟨r, 0, none⟩), .int .u8 b] w fun e w' => e = .returned (getV (kget l b)) ∧ ∃ n, w' = w.drewN n := by
  have c0 := h.c0
  have hr := h.r1
  have h16 := h.n16
  have hp : Hid (Calls Try.prog 192 #[.pointer (some ⟨r, 0, none⟩), .int .u8 b] w fun e w' => e = .returned (.tuple #[.int .i64 (pl l b : Nat), .bool (has l b)]) ∧ ∃ n, w' = w.drewN n) := row_place h b
  have hle := pl_le l b
  generalize hV : getV (kget l b) = V
  cases hh : has l b with
  | true =>
    obtain ⟨h1, h2⟩ := has_yes hh
    have hx := h.cx (pl l b) h1 (0, undef)
    have hR : Hid (V = .tuple #[(l.getD (pl l b) (0, undef)).2, .bool true]) := by show _ = _; rw [← hV, get_yes h.srt hh (0, undef)]; rfl
    obtain ⟨v, hv⟩ : ∃ v, (l.getD (pl l b) (0, undef)).2 = v := ⟨_, rfl⟩
    rw [hv] at hx hR
    rw [hh] at hp
    generalize pl l b = j at *
    clear h h2 hv hh hV
    go_enter Try.func151, Try.ntmps151
    go_wp2_with (first | (go_at_call 191; refine (ok_yes _ _ _ c0 hr).mono ?_; rintro e w' ⟨rfl, rfl⟩) | (go_at_call 192; refine hp.out.mono ?_; rintro e w' ⟨rfl, nd, rfl⟩))
    go_ret2
    exact ⟨congrArg Ending.returned hR.out.symm, nd, rfl⟩
  | false =>
    have hR : Hid (V = .tuple #[(.pointer none), .bool false]) := by show _ = _; rw [← hV, get_no h.srt hh]; rfl
    rw [hh] at hp
    generalize pl l b = j at *
    clear h hh hV
    go_enter Try.func151, Try.ntmps151
    go_wp2_with (first | (go_at_call 191; refine (ok_yes _ _ _ c0 hr).mono ?_; rintro e w' ⟨rfl, rfl⟩) | (go_at_call 192; refine hp.out.mono ?_; rintro e w' ⟨rfl, nd, rfl⟩))
    go_ret2
    exact ⟨congrArg Ending.returned hR.out.symm, nd, rfl⟩
theorem row_next_high (h : RowIs rowT w r rm l B X) (f : Int) (hf : 255 < f) : Calls Try.prog 147 #[.pointer (some ⟨r, 0, none⟩), .int .i64 f] w fun e w' => e = .returned (atV (knxt l f)) ∧ ∃ n, w' = w.drewN n := by
  have c0 := h.c0
  have hr := h.r1
  rw [nxt_high h.low hf]
  have hV : Hid (atV none = .tuple #[.int .u8 0, (.pointer none), .bool false]) := rfl
  generalize atV none = V at *
  clear h
  go_enter Try.func147, Try.ntmps147
  go_wp2_with (go_at_call 191; refine (ok_yes _ _ _ c0 hr).mono ?_; rintro e w' ⟨rfl, rfl⟩)
  go_ret3
  exact ⟨congrArg Ending.returned hV.out.symm, 0, rfl⟩
/-- behind a place: a byte, a thing, and whether -/
def trip (V a b c : Value) : Prop := V = .tuple #[a, b, c]
theorem atV_trip (o : Option (Nat × Value)) : ∃ a b c, trip (atV o) a b c := by
  cases o with
  | none => exact ⟨_, _, _, rfl⟩
  | some p => exact ⟨_, _, _, rfl⟩
set_option maxHeartbeats 800000 in
theorem row_next (h : RowIs rowT w r rm l B X) (f : Int) (hlo : -9223372036854775808 ≤ f) (hhi : f ≤ 9223372036854775807) : Calls Try.prog 147 #[.pointer (some ⟨r, 0, none⟩), .int .i64 f] w fun e w' => e = .returned (atV (knxt l f)) ∧ ∃ n, w' = w.drewN n := by
  by_cases hf : 255 < f
  · exact row_next_high h f hf
  · have c0 := h.c0
    have hr := h.r1
    have hle : Hid (pl l f.toNat ≤ 16) := by have := pl_le l f.toNat; have := h.n16; show _ ≤ _; omega
    have hp : Hid (Calls Try.prog 192 #[.pointer (some ⟨r, 0, none⟩), .int .u8 f.toNat] w fun e w' => e = .returned (.tuple #[.int .i64 (pl l f.toNat : Nat), .bool (has l f.toNat)]) ∧ ∃ n, w' = w.drewN n) := row_place h f.toNat
    have ha : ∀ n, Hid (Calls Try.prog 193 #[.pointer (some ⟨r, 0, none⟩), .int .i64 (pl l f.toNat : Nat)] (w.drewN n) fun e w' => e = .returned (atV (knxt l f)) ∧ ∃ m, w' = (w.drewN n).drewN m) := fun n => by
      have := row_at (h.keep (w' := w.drewN n) rfl) (pl l f.toNat : Nat) (by omega) (by have := hle.out; omega)
      rw [if_neg (by omega), Int.toNat_natCast, ← nxt_pl h.srt, show knxt l (f.toNat : Nat) = knxt l f from by
        by_cases h0 : 0 ≤ f
        · rw [Int.toNat_of_nonneg h0]
        · rw [nxt_neg l (f := f) (by omega)]; congr 1; omega] at this
      exact this
    obtain ⟨a, b, c, ht⟩ := atV_trip (knxt l f)
    have Ht := Lib.hid ht
    clear ht
    generalize atV (knxt l f) = V at *
    generalize pl l f.toNat = j at *
    generalize has l f.toNat = yes at *
    clear h
    by_cases h0 : 0 ≤ f
    · obtain ⟨g, rfl⟩ := Int.eq_ofNat_of_zero_le h0
      rw [Int.toNat_natCast] at hp
      clear h0
      go_enter Try.func147, Try.ntmps147
      go_wp2_with (first | (go_at_call 191; refine (ok_yes _ _ _ c0 hr).mono ?_; rintro e w' ⟨rfl, rfl⟩) | (go_at_call 192; refine hp.out.mono ?_; rintro e w' ⟨rfl, nd, rfl⟩) | (go_at_call 193; refine (ha _).out.mono ?_; rintro e w' ⟨rfl, ne, rfl⟩; rw [Ht.out]))
      go_ret3
      exact ⟨congrArg Ending.returned Ht.out.symm, nd + ne, by simp⟩
    · have hp0 : Hid (Calls Try.prog 192 #[.pointer (some ⟨r, 0, none⟩), .int .u8 0] w fun e w' => e = .returned (.tuple #[.int .i64 (j : Nat), .bool yes]) ∧ ∃ n, w' = w.drewN n) := by
        have := hp.out
        rw [show f.toNat = 0 from by omega] at this
        exact this
      clear hp
      go_enter Try.func147, Try.ntmps147
      go_wp2_with (first | (go_at_call 191; refine (ok_yes _ _ _ c0 hr).mono ?_; rintro e w' ⟨rfl, rfl⟩) | (go_at_call 192; refine hp0.out.mono ?_; rintro e w' ⟨rfl, nd, rfl⟩) | (go_at_call 193; refine (ha _).out.mono ?_; rintro e w' ⟨rfl, ne, rfl⟩; rw [Ht.out]))
      go_ret3
      exact ⟨congrArg Ending.returned Ht.out.symm, nd + ne, by simp⟩
theorem row_prev_low (h : RowIs rowT w r rm l B X) (f : Int) (hf : f < 0) : Calls Try.prog 149 #[.pointer (some ⟨r, 0, none⟩), .int .i64 f] w fun e w' => e = .returned (atV (kprv l f)) ∧ ∃ n, w' = w.drewN n := by
  have c0 := h.c0
  have hr := h.r1
  rw [prv_neg l hf]
  have hV : Hid (atV none = .tuple #[.int .u8 0, (.pointer none), .bool false]) := rfl
  generalize atV none = V at *
  clear h
  go_enter Try.func149, Try.ntmps149
  go_wp2_with (go_at_call 191; refine (ok_yes _ _ _ c0 hr).mono ?_; rintro e w' ⟨rfl, rfl⟩)
  go_ret3
  exact ⟨congrArg Ending.returned hV.out.symm, 0, rfl⟩
set_option maxHeartbeats 800000 in
theorem row_prev_to (h : RowIs rowT w r rm l B X) (f : Int) (g : Nat) (h0 : 0 ≤ f) (hhi : f ≤ 9223372036854775807) (hg : g < 256) (hfg : Hid (g = (min f 255).toNat)) : Calls Try.prog 149 #[.pointer (some ⟨r, 0, none⟩), .int .i64 f] w fun e w' => e = .returned (atV (kprv l (g : Nat))) ∧ ∃ n, w' = w.drewN n := by
  have c0 := h.c0
  have hr := h.r1
  have hle : Hid (pl l g ≤ 16) := by have := pl_le l g; have := h.n16; show _ ≤ _; omega
  have hp : Hid (Calls Try.prog 192 #[.pointer (some ⟨r, 0, none⟩), .int .u8 g] w fun e w' => e = .returned (.tuple #[.int .i64 (pl l g : Nat), .bool (has l g)]) ∧ ∃ n, w' = w.drewN n) := row_place h g
  have ha : ∀ n, Hid (Calls Try.prog 193 #[.pointer (some ⟨r, 0, none⟩), .int .i64 (if has l g then (pl l g : Int) else (pl l g : Int) - 1)] (w.drewN n) fun e w' => e = .returned (atV (kprv l (g : Nat))) ∧ ∃ m, w' = (w.drewN n).drewN m) := fun n => by
    have hl := hle.out
    cases hh : has l g with
    | true =>
      have := row_at (h.keep (w' := w.drewN n) rfl) (pl l g : Nat) (by omega) (by omega)
      rw [if_neg (by omega), Int.toNat_natCast, ← prv_yes h.srt hh] at this
      exact this
    | false =>
      have := row_at (h.keep (w' := w.drewN n) rfl) ((pl l g : Int) - 1) (by omega) (by omega)
      rw [prv_no h.srt hh]
      by_cases e : pl l g = 0
      · rw [if_pos e]; rw [if_pos (by omega)] at this; exact this
      · rw [if_neg e]; rw [if_neg (by omega), show ((pl l g : Int) - 1).toNat = pl l g - 1 from by omega] at this; exact this
  obtain ⟨a, b, c, ht⟩ := atV_trip (kprv l (g : Nat))
  have Ht := Lib.hid ht
  clear ht
  have hj16 : pl l g ≤ 16 := hle.out
  have hjl : Hid (has l g = true → pl l g < l.length) := fun hh => (has_yes hh).1
  generalize atV (kprv l (g : Nat)) = V at *
  generalize pl l g = j at *
  generalize has l g = yes at *
  by_cases hf : f ≤ 255
  · obtain ⟨q, rfl⟩ := Int.eq_ofNat_of_zero_le h0
    obtain rfl : g = q := by have := hfg.out; omega
    cases yes
    · have ha' : ∀ n, Hid (Calls Try.prog 193 #[.pointer (some ⟨r, 0, none⟩), .int .i64 ((j : Int) - 1)] (w.drewN n) fun e w' => e = .returned V ∧ ∃ m, w' = (w.drewN n).drewN m) := ha
      clear h ha hjl hle hfg
      go_enter Try.func149, Try.ntmps149
      go_wp2_with (first | (go_at_call 191; refine (ok_yes _ _ _ c0 hr).mono ?_; rintro e w' ⟨rfl, rfl⟩) | (go_at_call 192; refine hp.out.mono ?_; rintro e w' ⟨rfl, nd, rfl⟩) | (go_at_call 193; refine (ha' _).out.mono ?_; rintro e w' ⟨rfl, ne, rfl⟩; rw [Ht.out]))
      go_ret3
      exact ⟨congrArg Ending.returned Ht.out.symm, nd + ne, by simp⟩
    · have ha' : ∀ n, Hid (Calls Try.prog 193 #[.pointer (some ⟨r, 0, none⟩), .int .i64 (j : Int)] (w.drewN n) fun e w' => e = .returned V ∧ ∃ m, w' = (w.drewN n).drewN m) := ha
      clear h ha hjl hle hfg
      go_enter Try.func149, Try.ntmps149
      go_wp2_with (first | (go_at_call 191; refine (ok_yes _ _ _ c0 hr).mono ?_; rintro e w' ⟨rfl, rfl⟩) | (go_at_call 192; refine hp.out.mono ?_; rintro e w' ⟨rfl, nd, rfl⟩) | (go_at_call 193; refine (ha' _).out.mono ?_; rintro e w' ⟨rfl, ne, rfl⟩; rw [Ht.out]))
      go_ret3
      exact ⟨congrArg Ending.returned Ht.out.symm, nd + ne, by simp⟩
  · obtain rfl : g = 255 := by have := hfg.out; omega
    cases yes
    · have ha' : ∀ n, Hid (Calls Try.prog 193 #[.pointer (some ⟨r, 0, none⟩), .int .i64 ((j : Int) - 1)] (w.drewN n) fun e w' => e = .returned V ∧ ∃ m, w' = (w.drewN n).drewN m) := ha
      have hp' : Hid (Calls Try.prog 192 #[.pointer (some ⟨r, 0, none⟩), .int .u8 255] w fun e w' => e = .returned (.tuple #[.int .i64 (j : Nat), .bool false]) ∧ ∃ n, w' = w.drewN n) := hp
      clear h ha hjl hle hfg hp
      go_enter Try.func149, Try.ntmps149
      go_wp2_with (first | (go_at_call 191; refine (ok_yes _ _ _ c0 hr).mono ?_; rintro e w' ⟨rfl, rfl⟩) | (go_at_call 192; refine hp'.out.mono ?_; rintro e w' ⟨rfl, nd, rfl⟩) | (go_at_call 193; refine (ha' _).out.mono ?_; rintro e w' ⟨rfl, ne, rfl⟩; rw [Ht.out]))
      go_ret3
      exact ⟨congrArg Ending.returned Ht.out.symm, nd + ne, by simp⟩
    · have ha' : ∀ n, Hid (Calls Try.prog 193 #[.pointer (some ⟨r, 0, none⟩), .int .i64 (j : Int)] (w.drewN n) fun e w' => e = .returned V ∧ ∃ m, w' = (w.drewN n).drewN m) := ha
      have hp' : Hid (Calls Try.prog 192 #[.pointer (some ⟨r, 0, none⟩), .int .u8 255] w fun e w' => e = .returned (.tuple #[.int .i64 (j : Nat), .bool true]) ∧ ∃ n, w' = w.drewN n) := hp
      clear h ha hjl hle hfg hp
      go_enter Try.func149, Try.ntmps149
      go_wp2_with (first | (go_at_call 191; refine (ok_yes _ _ _ c0 hr).mono ?_; rintro e w' ⟨rfl, rfl⟩) | (go_at_call 192; refine hp'.out.mono ?_; rintro e w' ⟨rfl, nd, rfl⟩) | (go_at_call 193; refine (ha' _).out.mono ?_; rintro e w' ⟨rfl, ne, rfl⟩; rw [Ht.out]))
      go_ret3
      exact ⟨congrArg Ending.returned Ht.out.symm, nd + ne, by simp⟩
theorem row_prev (h : RowIs rowT w r rm l B X) (f : Int) (hlo : -9223372036854775808 ≤ f) (hhi : f ≤ 9223372036854775807) : Calls Try.prog 149 #[.pointer (some ⟨r, 0, none⟩), .int .i64 f] w fun e w' => e = .returned (atV (kprv l f)) ∧ ∃ n, w' = w.drewN n := by
  by_cases h0 : f < 0
  · exact row_prev_low h f h0
  · by_cases h1 : f ≤ 255
    · have := row_prev_to h f f.toNat (by omega) hhi (by omega) (by show _ = _; omega)
      rw [Int.toNat_of_nonneg (by omega)] at this
      exact this
    · have := row_prev_to h f 255 (by omega) hhi (by omega) (by show _ = _; omega)
      rw [prv_high h.low (f := f) (by omega)]
      exact this
end N
end Go.Proofs.Ytkonbldjmcccmaa
