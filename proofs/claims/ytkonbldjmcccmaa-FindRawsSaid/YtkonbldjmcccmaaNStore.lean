/- Nodes side by side, made since a world w0. -/
import Derived.Test.YtkonbldjmcccmaaNCopy
set_option linter.unusedVariables false
set_option linter.unusedSimpArgs false
namespace Go.Proofs.Ytkonbldjmcccmaa
open Go.RowKit
/-- what a node is -/
structure NP where
  n : Nat
  o : Int
  bs : List Nat
  val : Int
  has : Bool
  kk : Option KV
/-- a node, with where it lies -/
structure Nd extends NP where
  pv : Value
  bo : Option Nat
  kp : Option Addr
  Sk : Nat → Prop
def Nd.is (d : Nd) (w : World) : Prop := NdIs w d.n d.o d.bs d.val d.has d.kk d.pv d.bo d.kp d.Sk
def Nd.W (d : Nd) (j : Nat) : Prop := j = d.n ∨ d.Sk j
def NP.fit (p : NP) : Prop := (∀ b ∈ p.bs, b < 256) ∧ p.bs.length ≤ 140737488355328
structure Store (X : Nat → Prop) (w0 w : World) (L : List Nd) : Prop where
  here : ∀ (i : Nat) (d : Nd), L[i]? = some d → d.is w
  fit : ∀ (i : Nat) (d : Nd), L[i]? = some d → d.toNP.fit
  new : ∀ (i : Nat) (d : Nd), L[i]? = some d → ∀ j, d.W j → w0.heap.size ≤ j
  gen : ∀ (i : Nat) (d : Nd), L[i]? = some d → ∀ g, d.bo = some g → w0.heap.size ≤ g
  apart : ∀ (i j : Nat) (a b : Nd), L[i]? = some a → L[j]? = some b → i ≠ j → ∀ x, a.W x → ¬ b.W x
  read : ∀ (i j : Nat) (a b : Nd), L[i]? = some a → L[j]? = some b → ∀ g, a.bo = some g → ¬ b.W g
  mod : Mod X w0 w
theorem NdIs.Slt {w : World} {n : Nat} {o : Int} {bs : List Nat} {val : Int} {has : Bool} {kk : Option KV} {pv : Value} {bo : Option Nat} {kp : Option Addr} {Sk : Nat → Prop} (h : NdIs w n o bs val has kk pv bo kp Sk) : ∀ j, Sk j → j < w.heap.size := fun j hj => by
  rcases h.kids with ⟨_, _, e⟩ | ⟨k, l, _, _, h3, _⟩
  · rw [e] at hj; exact hj.elim
  · exact h3.lt j hj
theorem NdIs.Rlt {w : World} {n : Nat} {o : Int} {bs : List Nat} {val : Int} {has : Bool} {kk : Option KV} {pv : Value} {bo : Option Nat} {kp : Option Addr} {Sk : Nat → Prop} (h : NdIs w n o bs val has kk pv bo kp Sk) : ∀ j, bo = some j → j < w.heap.size := fun j hj => by
  subst hj; exact h.own.lt
theorem Nd.is.Wlt {d : Nd} {w : World} (h : d.is w) : ∀ j, d.W j → j < w.heap.size := fun j hj => by
  rcases hj with rfl | e
  · exact NdIs.lt h
  · exact NdIs.Slt h j e
theorem Nd.is.keep {d : Nd} {w w' : World} (h : d.is w) (hW : ∀ j, d.W j → w'.heap[j]? = w.heap[j]?) (hR : ∀ j, d.bo = some j → w'.heap[j]? = w.heap[j]?) : d.is w' :=
  NdIs.keep h (hW _ (Or.inl rfl)) (fun j hj => hW j (Or.inr hj)) hR
section
variable {X : Nat → Prop} {w0 w w' : World} {L : List Nd}
/-- what is changed elsewhere -/
theorem Store.other {T : Nat → Prop} (h : Store X w0 w L) (hm : Mod T w w') (hT : ∀ (i : Nat) (d : Nd), L[i]? = some d → ∀ j, T j → ¬ d.W j ∧ d.bo ≠ some j) (hX : ∀ j, j < w0.heap.size → T j → X j) : Store X w0 w' L :=
  ⟨fun i d hd => (h.here i d hd).keep (fun j hj => hm.same j ((h.here i d hd).Wlt j hj) (fun t => (hT i d hd j t).1 hj)) (fun j hj => hm.same j (NdIs.Rlt (h.here i d hd) j hj) (fun t => (hT i d hd j t).2 hj)),
    h.fit, h.new, h.gen, h.apart, h.read, h.mod.then hm hX⟩
theorem Store.below (h : Store X w0 w L) (hm : Below w.heap.size w w') : Store X w0 w' L :=
  h.other (T := fun _ => False) (Mod.of_below hm) (fun _ _ _ _ t => t.elim) (fun _ _ t => t.elim)
/-- what is changed in old blocks -/
theorem Store.old {T : Nat → Prop} (h : Store X w0 w L) (hm : Mod T w w') (hT : ∀ j, T j → j < w0.heap.size) (hX : ∀ j, T j → X j) : Store X w0 w' L :=
  h.other hm (fun i d hd j t => ⟨fun e => by have := h.new i d hd j e; have := hT j t; omega, fun e => by have := h.gen i d hd j e; have := hT j t; omega⟩) (fun j _ t => hX j t)
theorem Store.drewN (h : Store X w0 w L) (m : Nat) : Store X w0 (w.drewN m) L :=
  ⟨fun i d hd => (h.here i d hd).keep (fun _ _ => rfl) (fun _ _ => rfl), h.fit, h.new, h.gen, h.apart, h.read, h.mod.drewN m⟩
/-- one node is written to -/
theorem Store.write {i : Nat} {d d' : Nd} (h : Store X w0 w L) (hd : L[i]? = some d) (h' : d'.is w') (hf : d'.toNP.fit) (hm : Mod d.W w w') (hW : ∀ j, d'.W j → d.W j ∨ w.heap.size ≤ j) (hR : ∀ g, d'.bo = some g → d.bo = some g ∨ w.heap.size ≤ g) : Store X w0 w' (L.set i d') := by
  have hsz := h.mod.size
  have hi : i < L.length := (List.getElem?_eq_some_iff.1 hd).1
  have key : ∀ j b, (L.set i d')[j]? = some b → (j = i ∧ b = d') ∨ (j ≠ i ∧ L[j]? = some b) := fun j b hb => by
    rw [List.getElem?_set] at hb
    by_cases e : i = j
    · subst e; simp [hi] at hb; exact Or.inl ⟨rfl, hb.symm⟩
    · simp [e] at hb; exact Or.inr ⟨fun q => e q.symm, hb⟩
  have dis : ∀ j b, j ≠ i → L[j]? = some b → ∀ x, b.W x → ¬ d'.W x := fun j b hj hb x hx hx' => by
    rcases hW x hx' with e | e
    · exact h.apart j i b d hb hd hj x hx e
    · have := (h.here j b hb).Wlt x hx; omega
  refine ⟨fun j b hb => ?_, fun j b hb => ?_, fun j b hb x hx => ?_, fun j b hb g hg => ?_, fun j k a b ha hb hjk x hx hx' => ?_, fun j k a b ha hb g hg hx => ?_, h.mod.then hm (fun j hj t => ?_)⟩
  · rcases key j b hb with ⟨rfl, rfl⟩ | ⟨e, hb⟩
    · exact h'
    · exact (h.here j b hb).keep (fun x hx => hm.same x ((h.here j b hb).Wlt x hx) (h.apart j i b d hb hd e x hx)) (fun g hg => hm.same g (NdIs.Rlt (h.here j b hb) g hg) (h.read j i b d hb hd g hg))
  · rcases key j b hb with ⟨rfl, rfl⟩ | ⟨e, hb⟩
    · exact hf
    · exact h.fit j b hb
  · rcases key j b hb with ⟨rfl, rfl⟩ | ⟨e, hb⟩
    · rcases hW x hx with q | q
      · exact h.new j d hd x q
      · omega
    · exact h.new j b hb x hx
  · rcases key j b hb with ⟨rfl, rfl⟩ | ⟨e, hb⟩
    · rcases hR g hg with q | q
      · exact h.gen j d hd g q
      · omega
    · exact h.gen j b hb g hg
  · rcases key j a ha with ⟨e1, e2⟩ | ⟨e, qa⟩
    · rcases key k b hb with ⟨e3, e4⟩ | ⟨e, qb⟩
      · exact hjk (e1.trans e3.symm)
      · exact dis k b e qb x hx' (e2 ▸ hx)
    · rcases key k b hb with ⟨e3, e4⟩ | ⟨e2, qb⟩
      · exact dis j a e qa x hx (e4 ▸ hx')
      · exact h.apart j k a b qa qb hjk x hx hx'
  · rcases key j a ha with ⟨e1, e2⟩ | ⟨e, qa⟩
    · have hg' : d'.bo = some g := e2 ▸ hg
      rcases key k b hb with ⟨e3, e4⟩ | ⟨e, qb⟩
      · have hx2 : d'.W g := e4 ▸ hx
        rcases hx2 with hx2 | hx2
        · exact (NdIs.nR h' g hg').1 hx2
        · exact (NdIs.nR h' g hg').2 hx2
      · rcases hR g hg' with q | q
        · exact h.read i k d b hd qb g q hx
        · have := (h.here k b qb).Wlt g hx; omega
    · rcases key k b hb with ⟨e3, e4⟩ | ⟨e2, qb⟩
      · have hx2 : d'.W g := e4 ▸ hx
        rcases hW g hx2 with q | q
        · exact h.read j i a d qa hd g hg q
        · have := NdIs.Rlt (h.here j a qa) g hg; omega
      · exact h.read j k a b qa qb g hg hx
  · have := h.new i d hd j t; omega
/-- one node more -/
theorem Store.add {d : Nd} (h : Store X w0 w L) (h' : d.is w') (hf : d.toNP.fit) (hm : Below w.heap.size w w') (hW : ∀ j, d.W j → w.heap.size ≤ j) (hR : ∀ g, d.bo = some g → w.heap.size ≤ g ∨ ∃ (i : Nat) (a : Nd), L[i]? = some a ∧ a.bo = some g) : Store X w0 w' (L ++ [d]) := by
  have hsz := h.mod.size
  have key : ∀ j b, (L ++ [d])[j]? = some b → (j = L.length ∧ b = d) ∨ (j < L.length ∧ L[j]? = some b) := fun j b hb => by
    rw [List.getElem?_append] at hb
    by_cases e : j < L.length
    · simp [e] at hb; exact Or.inr ⟨e, by rw [List.getElem?_eq_getElem e, hb]⟩
    · simp only [e, if_false] at hb
      have : j - L.length = 0 := by
        by_cases q : j - L.length = 0
        · exact q
        · rw [List.getElem?_eq_none (by simp; omega)] at hb; cases hb
      rw [this] at hb; simp at hb
      exact Or.inl ⟨by omega, hb.symm⟩
  have hb := h.below hm
  refine ⟨fun j b hb' => ?_, fun j b hb' => ?_, fun j b hb' x hx => ?_, fun j b hb' g hg => ?_, fun j k a b ha hb' hjk x hx hx' => ?_, fun j k a b ha hb' g hg hx => ?_, hb.mod⟩
  · rcases key j b hb' with ⟨rfl, rfl⟩ | ⟨e, q⟩
    · exact h'
    · exact hb.here j b q
  · rcases key j b hb' with ⟨rfl, rfl⟩ | ⟨e, q⟩
    · exact hf
    · exact h.fit j b q
  · rcases key j b hb' with ⟨rfl, rfl⟩ | ⟨e, q⟩
    · have := hW x hx; omega
    · exact h.new j b q x hx
  · rcases key j b hb' with ⟨rfl, rfl⟩ | ⟨e, q⟩
    · rcases hR g hg with q | ⟨i, a, q1, q2⟩
      · omega
      · exact h.gen i a q1 g q2
    · exact h.gen j b q g hg
  · rcases key j a ha with ⟨rfl, rfl⟩ | ⟨e, qa⟩
    · rcases key k b hb' with ⟨rfl, rfl⟩ | ⟨e, q⟩
      · exact hjk rfl
      · have := (h.here k b q).Wlt x hx'; have := hW x hx; omega
    · rcases key k b hb' with ⟨rfl, rfl⟩ | ⟨e2, q⟩
      · have := (h.here j a qa).Wlt x hx; have := hW x hx'; omega
      · exact h.apart j k a b qa q hjk x hx hx'
  · rcases key j a ha with ⟨rfl, rfl⟩ | ⟨e, qa⟩
    · rcases key k b hb' with ⟨rfl, rfl⟩ | ⟨e, q⟩
      · rcases hx with e' | hx
        · exact (NdIs.nR h' g hg).1 e'
        · exact (NdIs.nR h' g hg).2 hx
      · rcases hR g hg with q' | ⟨i, a', q1, q2⟩
        · have := (h.here k b q).Wlt g hx; omega
        · exact h.read i k a' b q1 q g q2 hx
    · rcases key k b hb' with ⟨rfl, rfl⟩ | ⟨e2, q⟩
      · have := NdIs.Rlt (h.here j a qa) g hg; have := hW g hx; omega
      · exact h.read j k a b qa q g hg hx
end
/-- nodes, without where they lie -/
def StoreP (X : Nat → Prop) (w0 w : World) (P : List NP) : Prop := ∃ L : List Nd, L.map (·.toNP) = P ∧ Store X w0 w L
section
variable {X : Nat → Prop} {w0 w w' : World} {P : List NP} {i : Nat} {p : NP}
theorem StoreP.nil (X : Nat → Prop) {w0 w : World} (h : Mod X w0 w) : StoreP X w0 w [] :=
  ⟨[], rfl, by simp, by simp, by simp, by simp, by simp, by simp, h⟩
theorem StoreP.get (h : StoreP X w0 w P) (hi : P[i]? = some p) : ∃ L d, L.map Nd.toNP = P ∧ Store X w0 w L ∧ L[i]? = some d ∧ d.toNP = p := by
  obtain ⟨L, rfl, h⟩ := h
  rw [List.getElem?_map] at hi
  cases hd : L[i]? with
  | none => rw [hd] at hi; cases hi
  | some d => rw [hd] at hi; exact ⟨L, d, rfl, h, hd, by simpa using hi⟩
theorem StoreP.is (h : StoreP X w0 w P) (hi : P[i]? = some p) : ∃ pv bo kp Sk, NdIs w p.n p.o p.bs p.val p.has p.kk pv bo kp Sk := by
  obtain ⟨L, d, _, h, hd, rfl⟩ := h.get hi
  exact ⟨_, _, _, _, h.here i d hd⟩
theorem StoreP.fit (h : StoreP X w0 w P) (hi : P[i]? = some p) : p.fit := by
  obtain ⟨L, d, _, h, hd, rfl⟩ := h.get hi
  exact h.fit i d hd
theorem StoreP.drewN (h : StoreP X w0 w P) (m : Nat) : StoreP X w0 (w.drewN m) P := by
  obtain ⟨L, e, h⟩ := h; exact ⟨L, e, h.drewN m⟩
theorem StoreP.below (h : StoreP X w0 w P) (hm : Below w.heap.size w w') : StoreP X w0 w' P := by
  obtain ⟨L, e, h⟩ := h; exact ⟨L, e, h.below hm⟩
theorem StoreP.old {T : Nat → Prop} (h : StoreP X w0 w P) (hm : Mod T w w') (hT : ∀ j, T j → j < w0.heap.size) (hX : ∀ j, T j → X j) : StoreP X w0 w' P := by
  obtain ⟨L, e, h⟩ := h; exact ⟨L, e, h.old hm hT hX⟩
theorem StoreP.mod (h : StoreP X w0 w P) : Mod X w0 w := by
  obtain ⟨L, e, h⟩ := h; exact h.mod
theorem StoreP.size (h : StoreP X w0 w P) : w0.heap.size ≤ w.heap.size := h.mod.size
theorem StoreP.inj (h : StoreP X w0 w P) {j : Nat} {q : NP} (hi : P[i]? = some p) (hj : P[j]? = some q) (hij : i ≠ j) : p.n ≠ q.n := by
  obtain ⟨L, rfl, h⟩ := h
  rw [List.getElem?_map] at hi hj
  cases hd : L[i]? with
  | none => rw [hd] at hi; cases hi
  | some d =>
    cases hd2 : L[j]? with
    | none => rw [hd2] at hj; cases hj
    | some d2 =>
      rw [hd] at hi; rw [hd2] at hj
      obtain rfl : d.toNP = p := by simpa using hi
      obtain rfl : d2.toNP = q := by simpa using hj
      exact fun e => h.apart i j d d2 hd hd2 hij d.n (Or.inl rfl) (Or.inl e)
/-- the nodes are P now, and what was there ahead of w0 is as it was -/
def TurnsP (X : Nat → Prop) (w0 w : World) (P : List NP) (w' : World) : Prop := StoreP X w0 w' P ∧ Below w0.heap.size w w'
theorem Mod.belowOf {S : Nat → Prop} {w0 w w' : World} (h : Mod S w w') (hw : w0.heap.size ≤ w.heap.size) (hS : ∀ j, S j → w0.heap.size ≤ j) : Below w0.heap.size w w' :=
  ⟨h.os, h.tape, h.output, h.size, fun j hj => h.same j (by omega) (fun e => by have := hS j e; omega)⟩
theorem Store.turn {L : List Nd} {d : Nd} (h : Store X w0 w L) (hd : L[i]? = some d) (d' : Nd) (h' : d'.is w') (hf : d'.toNP.fit) (hm : Mod d.W w w') (hW : ∀ j, d'.W j → d.W j ∨ w.heap.size ≤ j) (hR : ∀ g, d'.bo = some g → d.bo = some g ∨ w.heap.size ≤ g) : TurnsP X w0 w ((L.map Nd.toNP).set i d'.toNP) w' :=
  ⟨⟨L.set i d', by rw [List.map_set], h.write hd h' hf hm hW hR⟩, hm.belowOf h.mod.size (h.new i d hd)⟩
theorem sp_setval (h : StoreP X w0 w P) (hi : P[i]? = some p) (x v : Int) (h0 : ¬ (x = 0 ∨ x ≠ p.o)) : Calls Try.prog 25 #[.pointer (some ⟨p.n, 0, none⟩), .int .u64 x, .int .u64 v] w fun e w' => e = .returned (.int .i64 0) ∧ TurnsP X w0 w (P.set i { p with val := v, has := true }) w' := by
  obtain ⟨L, d, rfl, h, hd, rfl⟩ := h.get hi
  refine (nd_setval (h.here i d hd) x v h0).mono ?_
  rintro e w' ⟨rfl, q1, q2⟩
  exact ⟨rfl, h.turn hd { d with val := v, has := true } q1 (h.fit i d hd) (q2.mono fun j _ e => Or.inl e) (fun j e => Or.inl e) (fun g e => Or.inl e)⟩
theorem sp_setkid (h : StoreP X w0 w P) (hi : P[i]? = some p) {l : KV} (hk : p.kk = some l) (x : Int) (h0 : ¬ (x = 0 ∨ x ≠ p.o)) (b : Nat) (hb : b < 256) (a : Addr) : Calls Try.prog 27 #[.pointer (some ⟨p.n, 0, none⟩), .int .u64 x, .int .u8 b, .pointer (some a)] w fun e w' => e = .returned (.int .i64 0) ∧ TurnsP X w0 w (P.set i { p with kk := some (kins l b (.pointer (some a))) }) w' := by
  obtain ⟨L, d, rfl, h, hd, rfl⟩ := h.get hi
  have H : NdIs w d.n d.o d.bs d.val d.has (some l) d.pv d.bo d.kp d.Sk := by have := h.here i d hd; unfold Nd.is at this; rw [hk] at this; exact this
  refine (nd_setkid H x h0 b hb a).mono ?_
  rintro e w' ⟨rfl, S', q1, q2, q3⟩
  exact ⟨rfl, h.turn hd { d with kk := some (kins l b (.pointer (some a))), Sk := S' } q1 (h.fit i d hd) (q2.mono fun j _ e => Or.inr e) (fun j e => by
    rcases e with e | e
    · exact Or.inl (Or.inl e)
    · rcases q3 j e with e | e
      · exact Or.inl (Or.inr e)
      · exact Or.inr e) (fun g e => Or.inl e)⟩
theorem sp_dropkid (h : StoreP X w0 w P) (hi : P[i]? = some p) {l : KV} (hk : p.kk = some l) (x : Int) (h0 : ¬ (x = 0 ∨ x ≠ p.o)) (b : Nat) (hb : b < 256) : Calls Try.prog 28 #[.pointer (some ⟨p.n, 0, none⟩), .int .u64 x, .int .u8 b] w fun e w' => e = .returned (.int .i64 (if Go.Proofs.Ytkonbldjmcccmaa.has l b then 0 else 6)) ∧ TurnsP X w0 w (P.set i { p with kk := some (kdel l b) }) w' := by
  obtain ⟨L, d, rfl, h, hd, rfl⟩ := h.get hi
  have H : NdIs w d.n d.o d.bs d.val d.has (some l) d.pv d.bo d.kp d.Sk := by have := h.here i d hd; unfold Nd.is at this; rw [hk] at this; exact this
  refine (nd_dropkid H x h0 b hb).mono ?_
  rintro e w' ⟨rfl, S', q1, q2, q3⟩
  exact ⟨rfl, h.turn hd { d with kk := some (kdel l b), Sk := S' } q1 (h.fit i d hd) (q2.mono fun j _ e => Or.inr e) (fun j e => by
    rcases e with e | e
    · exact Or.inl (Or.inl e)
    · rcases q3 j e with e | e
      · exact Or.inl (Or.inr e)
      · exact Or.inr e) (fun g e => Or.inl e)⟩
theorem sp_setpart (h : StoreP X w0 w P) (hi : P[i]? = some p) (x : Int) (h0 : ¬ (x = 0 ∨ x ≠ p.o)) (a : Option Addr) (m c : Nat) (ms : List Nat) (hn : ms.length = m) (hb : BytesAt w a ms) (hl : m ≤ 140737488355328) (hnil : a = none → m = 0) : Calls Try.prog 24 #[.pointer (some ⟨p.n, 0, none⟩), .int .u64 x, .slice a m c] w fun e w' => e = .returned (.int .i64 0) ∧ TurnsP X w0 w (P.set i { p with bs := ms }) w' := by
  obtain ⟨L, d, rfl, h, hd, rfl⟩ := h.get hi
  refine (nd_setpart (h.here i d hd) x h0 a m c ms hn hb hl hnil).mono ?_
  rintro e w' ⟨rfl, pv, bo, q1, q2, q3⟩
  exact ⟨rfl, h.turn hd { d with bs := ms, pv := pv, bo := bo } q1 ⟨hb.1, by rw [hn]; exact hl⟩ (q2.mono fun j _ e => Or.inl e) (fun j e => Or.inl e) (fun g e => Or.inr (q3 g e))⟩
theorem sp_dropval (h : StoreP X w0 w P) (hi : P[i]? = some p) {l : KV} (hk : p.kk = some l) (x : Int) (h0 : ¬ (x = 0 ∨ x ≠ p.o)) : Calls Try.prog 26 #[.pointer (some ⟨p.n, 0, none⟩), .int .u64 x] w fun e w' => e = .returned (.int .i64 (if p.has then 0 else 6)) ∧ TurnsP X w0 w (P.set i { p with val := if p.has then 0 else p.val, has := false }) w' := by
  obtain ⟨L, d, rfl, h, hd, rfl⟩ := h.get hi
  have H : NdIs w d.n d.o d.bs d.val d.has (some l) d.pv d.bo d.kp d.Sk := by have := h.here i d hd; unfold Nd.is at this; rw [hk] at this; exact this
  refine (nd_dropval H x h0).mono ?_
  rintro e w' ⟨rfl, q1, q2⟩
  refine ⟨rfl, h.turn hd { d with val := if d.has then 0 else d.val, has := false } ?_ (h.fit i d hd) (q2.mono fun j _ e => Or.inl e) (fun j e => Or.inl e) (fun g e => Or.inl e)⟩
  unfold Nd.is
  rw [show ({ d with val := if d.has then 0 else d.val, has := false } : Nd).kk = some l from hk]
  exact q1
/-- one node more, that was made behind wm -/
theorem StoreP.made {wm : World} {o : Int} {bs : List Nat} {val : Int} {has : Bool} {kk : Option KV} {e : Ending} (h : StoreP X w0 wm P) (hf : (∀ b ∈ bs, b < 256) ∧ bs.length ≤ 140737488355328) (q : madePost o bs val has kk wm e w') : ∃ n, e = .returned (.pointer (some ⟨n, 0, none⟩)) ∧ wm.heap.size ≤ n ∧ TurnsP X w0 wm (P ++ [⟨n, o, bs, val, has, kk⟩]) w' := by
  obtain ⟨L, rfl, h⟩ := h
  obtain ⟨n, pv, bo, kp, Sk, rfl, q1, q2, q3, q4, q5⟩ := q
  refine ⟨n, rfl, q3, ⟨L ++ [⟨⟨n, o, bs, val, has, kk⟩, pv, bo, kp, Sk⟩], by simp, h.add (d := ⟨⟨n, o, bs, val, has, kk⟩, pv, bo, kp, Sk⟩) q1 hf q2 ?_ (fun g hg => Or.inl (q4 g hg))⟩, q2.mono h.mod.size⟩
  rintro j (rfl | e)
  · exact q3
  · exact q5 j e
theorem sp_copy (h : StoreP X w0 w' P) (hi : P[i]? = some p) (mv : Option Addr) (x : Int) (hm : Calls Try.prog 91 #[.pointer mv, .int .i64 1] w fun e wm => e = .returned (.tuple #[]) ∧ w' = wm) : Calls Try.prog 21 #[.pointer (some ⟨p.n, 0, none⟩), .pointer mv, .int .u64 x] w fun e w2 => ∃ n, e = .returned (.pointer (some ⟨n, 0, none⟩)) ∧ w'.heap.size ≤ n ∧ TurnsP X w0 w' (P ++ [{ p with n := n, o := x }]) w2 := by
  obtain ⟨L, d, rfl, h, hd, rfl⟩ := h.get hi
  refine (nd_copy (h.here i d hd) mv x hm).mono ?_
  rintro e w2 ⟨n, kp, Sk, rfl, q1, q2, q3, q4⟩
  refine ⟨n, rfl, q3, ⟨L ++ [{ d with n := n, o := x, kp := kp, Sk := Sk }], by simp, h.add (d := { d with n := n, o := x, kp := kp, Sk := Sk }) q1 (h.fit i d hd) q2 ?_ (fun g hg => Or.inr ⟨i, d, hd, hg⟩)⟩, q2.mono h.mod.size⟩
  rintro j (rfl | e)
  · exact q3
  · exact q4 j e
end
end Go.Proofs.Ytkonbldjmcccmaa
