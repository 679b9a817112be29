/- Frames and byte slices with their blocks. -/
import Derived.Test.YtohaaejonlijeaaKit2
import Derived.Laws.CopyOwn
namespace Go.Proofs.Ytohaaejonlijeaa
open Go.RowKit

/-- w' is w but for the blocks of M, and new ones -/
structure Fr (M : Nat → Prop) (w w' : World) : Prop where
  os : w'.os = w.os
  tape : w'.tape = w.tape
  output : w'.output = w.output
  size : w.heap.size ≤ w'.heap.size
  block : ∀ k, k < w.heap.size → ¬ M k → w'.heap[k]? = w.heap[k]?

abbrev NoB : Nat → Prop := fun _ => False

theorem Fr.refl (M : Nat → Prop) (w : World) : Fr M w w := ⟨rfl, rfl, rfl, Nat.le_refl _, fun _ _ _ => rfl⟩
theorem Fr.trans {M N : Nat → Prop} {a b c : World} (h : Fr M a b) (k : Fr N b c) (hN : ∀ i, i < a.heap.size → N i → M i) : Fr M a c :=
  ⟨k.os.trans h.os, k.tape.trans h.tape, k.output.trans h.output, Nat.le_trans h.size k.size,
   fun i hi hm => (k.block i (Nat.lt_of_lt_of_le hi h.size) (fun e => hm (hN i hi e))).trans (h.block i hi hm)⟩
theorem Fr.mono {M N : Nat → Prop} {a b : World} (h : Fr M a b) (hM : ∀ i, i < a.heap.size → M i → N i) : Fr N a b :=
  ⟨h.os, h.tape, h.output, h.size, fun i hi hn => h.block i hi (fun e => hn (hM i hi e))⟩
theorem Fr.of_below {M : Nat → Prop} {a b : World} (h : Below a.heap.size a b) : Fr M a b := ⟨h.os, h.tape, h.output, h.size, fun i hi _ => h.block i hi⟩
theorem Fr.of_grown {a b : World} {row : Option Nat} (h : a.grownBy b row) : Fr (fun k => some k = row) a b := ⟨h.os, h.tape, h.output, h.size, h.block⟩
theorem Fr.to_below {M : Nat → Prop} {a b : World} (h : Fr M a b) (hM : ∀ i, i < a.heap.size → ¬ M i) : Below a.heap.size a b := ⟨h.os, h.tape, h.output, h.size, fun i hi => h.block i hi (hM i hi)⟩
theorem Fr.drewN {M : Nat → Prop} {a w : World} (h : Fr M a w) (n : Nat) : Fr M a (w.drewN n) := ⟨h.os, h.tape, h.output, h.size, h.block⟩
theorem Fr.drew {M : Nat → Prop} {a w : World} (h : Fr M a w) : Fr M a w.drew := ⟨h.os, h.tape, h.output, h.size, h.block⟩
theorem Fr.alloc {M : Nat → Prop} {a w : World} (h : Fr M a w) (o : Obj) : Fr M a (w.alloc o) :=
  h.trans (N := NoB) (Fr.of_below ((Below.refl _ _).alloc (Nat.le_refl _) o)) (fun _ _ e => e.elim)
theorem Fr.setCell {M : Nat → Prop} {a w : World} (h : Fr M a w) {p : Addr} (hp : M p.block ∨ a.heap.size ≤ p.block) (u : Value) : Fr M a (w.setCell p u) :=
  ⟨h.os, h.tape, h.output, by simpa [World.setCell] using h.size, fun i hi hn => (Below.heap_setCell w p u i (by
    rintro rfl
    rcases hp with hp | hp
    · exact hn hp
    · omega)).trans (h.block i hi hn)⟩
theorem Fr.trans_below {M : Nat → Prop} {a b c : World} (h : Fr M a b) (k : Below b.heap.size b c) : Fr M a c :=
  h.trans (N := NoB) (Fr.of_below k) (fun _ _ e => e.elim)

/-- a slice of bytes that reads as l; its block is one of F -/
structure Sl (w : World) (F : Nat → Prop) (A : Option Addr) (n c : Nat) (l : List UInt8) : Prop where
  len : l.length = n
  cap : n ≤ c
  nil : A = none → c = 0
  foot : ∀ ad, A = some ad → bs l ≠ [] → F ad.block
  rd : Rd w A (bs l)

theorem Sl.fr {w w' : World} {F M : Nat → Prop} {A : Option Addr} {n c : Nat} {l : List UInt8} (h : Sl w F A n c l) (hf : Fr M w w') (hF : ∀ k, F k → k < w.heap.size ∧ ¬ M k) : Sl w' F A n c l :=
  ⟨h.len, h.cap, h.nil, h.foot, h.rd.of_eq fun ad he hne => hf.block _ (hF _ (h.foot ad he hne)).1 (hF _ (h.foot ad he hne)).2⟩
theorem Sl.mono {w : World} {F G : Nat → Prop} {A : Option Addr} {n c : Nat} {l : List UInt8} (h : Sl w F A n c l) (hF : ∀ k, F k → G k) : Sl w G A n c l :=
  ⟨h.len, h.cap, h.nil, fun ad he hne => hF _ (h.foot ad he hne), h.rd⟩
theorem Sl.nil_ (w : World) (F : Nat → Prop) : Sl w F none 0 0 [] := ⟨rfl, Nat.le_refl _, fun _ => rfl, (fun _ h => by cases h), (fun j x hx => by simp [bs] at hx)⟩
theorem Sl.zero {w : World} {F : Nat → Prop} {A : Option Addr} {n c : Nat} {l : List UInt8} (h : Sl w F A n c l) : A = none → n = 0 ∧ c = 0 := fun e => by
  have := h.nil e; have := h.cap; omega
/-- what is owned, as a slice of its own block -/
theorem Sl.of_own {w : World} {base e : Nat} {A : Option Addr} {n c : Nat} {l : List UInt8} (h : w.ownsRow base e 1 (.slice A n c) n (bs l)) :
    Sl w (fun k => base ≤ k ∧ k < w.heap.size ∧ (Value.slice A n c).ownBlock = some k) A n c l := by
  have hl : l.length = n := by have := h.1; rw [bs_length] at this; omega
  refine ⟨hl, ?_, ?_, ?_, Rd.of_own h⟩
  · rcases h.2 with ⟨hv, h0⟩ | ⟨g, cap, cur, hv, _, _, hc, _⟩
    · injection hv with _ _ hc; omega
    · injection hv with _ _ hc'; omega
  · intro hA
    rcases h.2 with ⟨hv, h0⟩ | ⟨g, cap, cur, hv, _⟩
    · injection hv with _ _ hc
    · injection hv with hA'; rw [hA] at hA'; cases hA'
  · intro ad hA _
    subst hA
    have := h.lt ad.block rfl
    exact ⟨this.1, this.2, rfl⟩
theorem Sl.take_ {w : World} {F : Nat → Prop} {A : Option Addr} {n c m : Nat} {l l' : List UInt8} (h : Sl w F A n c (l ++ l')) (hm : l.length = m) : Sl w F A m c l := by
  have := h.len; rw [List.length_append] at this
  exact ⟨hm, by have := h.cap; omega, h.nil, fun ad he hne => h.foot ad he (by rw [bs_append]; simp [hne]), Rd.prefix_ (by rw [← bs_append]; exact h.rd)⟩
theorem addr_add_add (a : Addr) (i j : Nat) : (a.add i).add j = a.add (i + j) := by
  unfold Addr.add
  by_cases hi : i = 0 <;> by_cases hj : j = 0 <;> simp [hi, hj, Nat.add_assoc]
theorem Sl.drop_ {w : World} {F : Nat → Prop} {A A' : Option Addr} {n c m : Nat} {l : List UInt8} (h : Sl w F A n c l) (hm : m ≤ n) (hA : (A' = A ∧ c = m) ∨ A' = A.map (·.add m)) : Sl w F A' (n - m) (c - m) (l.drop m) := by
  have h1 := h.len
  have h2 := h.cap
  rcases hA with ⟨rfl, hc⟩ | rfl
  · have : l.drop m = [] := List.drop_of_length_le (by omega)
    rw [this]
    exact ⟨by simp; omega, by omega, fun _ => by omega, fun _ _ hne => absurd rfl hne, fun j x hx => by simp [bs] at hx⟩
  · refine ⟨by rw [List.length_drop]; omega, by omega, fun e => ?_, fun ad he hne => ?_, fun j x hx => ?_⟩
    · rcases A with _ | ad
      · have := h.nil rfl; omega
      · cases e
    · rcases A with _ | ad'
      · cases he
      · injection he with he; subst he
        rw [addr_add_block]; exact h.foot ad' rfl (fun e => hne (by simp only [bs, List.map_eq_nil_iff] at e; subst e; simp [bs]))
    · have hx' : (bs l)[m + j]? = some x := by
        rw [← hx]; simp [bs, List.getElem?_drop]
      obtain ⟨ad, rfl, hc⟩ := h.rd (m + j) x hx'
      exact ⟨_, rfl, by rw [addr_add_add]; exact hc⟩
theorem Sl.lt {w : World} {F : Nat → Prop} {A : Option Addr} {n c : Nat} {l : List UInt8} (h : Sl w F A n c l) (hF : ∀ k, F k → k < w.heap.size) : ∀ ad, A = some ad → bs l ≠ [] → ad.block < w.heap.size :=
  fun ad he hne => hF _ (h.foot ad he hne)

/-- all blocks that there are -/
abbrev Old (w : World) : Nat → Prop := fun k => k < w.heap.size

/-! The kit's contracts again, over Sl. -/
theorem foldl_push (l : List UInt8) : ∀ s : ByteArray, (l.map (fun u : UInt8 => (u.toNat : Int))).foldl (fun r n => r.push (UInt8.ofNat n.toNat)) s = ⟨s.data ++ l.toArray⟩ := by
  induction l with
  | nil => intro s; simp
  | cons u l ih =>
    intro s
    simp only [List.map_cons, List.foldl_cons]
    rw [ih]
    congr 1
    apply Array.ext'
    simp [ByteArray.push]
theorem run_string_of {P : Program} (w : World) (F : Nat → Prop) (src dst e : TypeId) (A : Option Addr) (n c : Nat) (l : List UInt8) (h : Sl w F A n c l)
    (hs : P.underlying src = some (.slice e)) (he : P.underlying e = some (.int .u8)) (hd : P.underlying dst = some .string) :
    (convert src dst (.slice A n c)).run P w = .ok (.string ⟨l.toArray⟩) w := by
  rw [run_convert_bytes_string w src dst e A n c hs he hd]
  rcases A with _ | ad
  · have h0 := h.zero rfl
    have hl : l = [] := List.eq_nil_of_length_eq_zero (by have := h.len; omega)
    subst hl
    simp [Conv.bytesToString]; rfl
  · have hlc : (loadCells ad n).run P w = .ok (bs l).toArray w := by
      have := run_loadCells_list (P := P) w ad (bs l) (fun j v hv => by obtain ⟨ad', e1, hc⟩ := h.rd j v hv; injection e1 with e1; subst e1; exact hc)
      rw [bs_length, h.len] at this
      exact this
    have hb : bs l = (l.map (fun u : UInt8 => (u.toNat : Int))).map (Value.int .u8) := by simp [bs, bv, Function.comp_def]
    rw [hb] at hlc
    rw [run_bytesToString w ad n c _ hlc, foldl_push]
    simp
theorem bs_replicate (n : Nat) : bs (List.replicate n 0) = List.replicate n (.int .u8 0) := by simp [bs, bv]
theorem own_mono {w : World} {base base' e size n : Nat} {v : Value} {xs : List Value} (h : w.ownsRow base e size v n xs) (hb : base' ≤ base) : w.ownsRow base' e size v n xs := by
  refine ⟨h.1, ?_⟩
  rcases h.2 with hn | ⟨g, cap, cur, hv, hbg, rest⟩
  · exact .inl hn
  · exact .inr ⟨g, cap, cur, hv, by omega, rest⟩
end Go.Proofs.Ytohaaejonlijeaa
