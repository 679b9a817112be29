/- chacha.Xor. -/
import Derived.Test.YtklclbppdoahjaaCh10
namespace Go.Proofs.Ytklclbppdoahjaa
set_option maxRecDepth 100000
open Go.RowKit
attribute [local go_sem] Oper.semAt_some yld yldUpon_value

theorem xor_byte (a b : UInt8) : bits .xor .u8 (a.toNat : Int) (b.toNat : Int) = ((a ^^^ b).toNat : Int) := by
  show IntKind.u8.wrap ((BitVec.ofInt _ _ ^^^ BitVec.ofInt _ _).toNat : Int) = _
  have e : ∀ u : UInt8, BitVec.ofInt (IntKind.u8.bits) (u.toNat : Int) = u.toBitVec := fun u => by
    apply BitVec.eq_of_toNat_eq
    have := u.toNat_lt
    show (BitVec.ofInt 8 _).toNat = _
    rw [BitVec.toNat_ofInt]
    simp only [Nat.reducePow]
    show _ = u.toNat
    omega
  rw [e, e]
  have h := (a ^^^ b).toNat_lt
  show IntKind.u8.wrap ((a ^^^ b).toNat : Int) = _
  generalize (a ^^^ b).toNat = x at h
  simp [IntKind.wrap, IntKind.signed, IntKind.bits]
  omega
/-- bytes xored with the stream's -/
def ksP (key : List UInt8) (ctr : BitVec 32) (nonce : List UInt8) (j : Nat) : UInt8 := (blockP key (ctr + BitVec.ofNat 32 (j / 64)) nonce).getD (j % 64) 0
def xorP (key : List UInt8) (ctr : BitVec 32) (nonce : List UInt8) (b : List UInt8) : List UInt8 := (List.range b.length).map fun j => b.getD j 0 ^^^ ksP key ctr nonce j
theorem xorP_len (key : List UInt8) (ctr : BitVec 32) (nonce b : List UInt8) : (xorP key ctr nonce b).length = b.length := by simp [xorP]

theorem own_frC {w w' : World} {base e size n : Nat} {v : Value} {xs : List Value} {M : Nat → Prop} (h : w.ownsRow base e size v n xs) (hf : Fr M w w') (hM : ∀ k, v.ownBlock = some k → ¬ M k) : w'.ownsRow base e size v n xs := by
  refine ⟨h.1, ?_⟩
  rcases h.2 with hn | ⟨g, cap, cur, rfl, hb, hgg, rest⟩
  · exact .inl hn
  · refine .inr ⟨g, cap, cur, rfl, hb, ?_, rest⟩
    rw [hf.block g (Array.getElem?_eq_some_iff.1 hgg).1 (hM g rfl)]
    exact hgg
theorem Boxed.fr' {W W' : World} {B : Nat} {t : TypeId} {v : Value} {M : Nat → Prop} (h : Boxed W B t v) (hf : Fr M W W') (hM : ¬ M B) : Boxed W' B t v := (hf.block B h.lt hM).trans h
theorem stream_boxes (w : World) (key nonce : List UInt8) (ctr : BitVec 32) (W : World) (hW : W = ((w.alloc (.cells (bs key).toArray 23)).alloc (.cells #[.int .u32 (wv ctr)] 49)).alloc (.cells (bs nonce).toArray 25)) :
    W.heap[w.heap.size]? = some (.cells (bs key).toArray 23 (0, 0)) ∧ W.heap[w.heap.size + 1]? = some (.cells #[.int .u32 (wv ctr)] 49 (0, 0)) ∧ W.heap[w.heap.size + 2]? = some (.cells (bs nonce).toArray 25 (0, 0)) ∧ W.heap.size = w.heap.size + 3 ∧ Below w.heap.size w W := by
  subst hW
  have a1 := heap_alloc_new w (.cells (bs key).toArray 23)
  generalize hw1 : w.alloc (.cells (bs key).toArray 23) = w1 at a1 ⊢
  have z1 : w1.heap.size = w.heap.size + 1 := by subst hw1; simp
  have b1 : Below w.heap.size w w1 := by subst hw1; exact (Below.refl _ _).alloc (Nat.le_refl _) _
  have a2 := heap_alloc_new w1 (.cells #[.int .u32 (wv ctr)] 49)
  generalize hw2 : w1.alloc (.cells #[.int .u32 (wv ctr)] 49) = w2 at a2 ⊢
  have z2 : w2.heap.size = w1.heap.size + 1 := by subst hw2; simp
  have b2 : Below w1.heap.size w1 w2 := by subst hw2; exact (Below.refl _ _).alloc (Nat.le_refl _) _
  have a3 := heap_alloc_new w2 (.cells (bs nonce).toArray 25)
  generalize hw3 : w2.alloc (.cells (bs nonce).toArray 25) = w3 at a3 ⊢
  have z3 : w3.heap.size = w2.heap.size + 1 := by subst hw3; simp
  have b3 : Below w2.heap.size w2 w3 := by subst hw3; exact (Below.refl _ _).alloc (Nat.le_refl _) _
  have b13 : Below w1.heap.size w1 w3 := b2.trans (b3.mono (by omega))
  have e1 : w1.heap.size = w.heap.size + 1 := by omega
  have e2 : w2.heap.size = w.heap.size + 2 := by omega
  refine ⟨(b13.block _ (by omega)).trans a1, ?_, ?_, by omega, b1.trans (b13.mono (by omega))⟩
  · rw [← e1]; exact (b3.block _ (by omega)).trans a2
  · rw [← e2]; exact a3
/-- the boxes that Xor lays -/
structure XB (w W : World) (key nonce : List UInt8) (v : Value) : Prop where
  k : W.heap[w.heap.size]? = some (.cells (bs key).toArray 23 (0, 0))
  n : W.heap[w.heap.size + 1]? = some (.cells (bs nonce).toArray 25 (0, 0))
  b : Boxed W (w.heap.size + 2) 26 v
  r : Boxed W (w.heap.size + 3) 26 (.slice none 0 0)
  sz : w.heap.size + 4 ≤ W.heap.size
  fr : Below w.heap.size w W
theorem XB.start (w : World) (key nonce : List UInt8) (v : Value) :
    XB w ((((w.alloc (.cells (bs key).toArray 23)).alloc (.cells (bs nonce).toArray 25)).alloc (.cells #[v] 26)).alloc (.cells #[.slice none 0 0] 26)) key nonce v := by
  have a1 := heap_alloc_new w (.cells (bs key).toArray 23)
  generalize hw1 : w.alloc (.cells (bs key).toArray 23) = w1 at a1 ⊢
  have z1 : w1.heap.size = w.heap.size + 1 := by subst hw1; simp
  have b1 : Below w.heap.size w w1 := by subst hw1; exact (Below.refl _ _).alloc (Nat.le_refl _) _
  have a2 := heap_alloc_new w1 (.cells (bs nonce).toArray 25)
  generalize hw2 : w1.alloc (.cells (bs nonce).toArray 25) = w2 at a2 ⊢
  have z2 : w2.heap.size = w1.heap.size + 1 := by subst hw2; simp
  have b2 : Below w1.heap.size w1 w2 := by subst hw2; exact (Below.refl _ _).alloc (Nat.le_refl _) _
  have a3 : Boxed (w2.alloc (.cells #[v] 26)) w2.heap.size 26 v := Boxed.new w2 _ v
  generalize hw3 : w2.alloc (.cells #[v] 26) = w3 at a3 ⊢
  have z3 : w3.heap.size = w2.heap.size + 1 := by subst hw3; simp
  have b3 : Below w2.heap.size w2 w3 := by subst hw3; exact (Below.refl _ _).alloc (Nat.le_refl _) _
  have a4 : Boxed (w3.alloc (.cells #[.slice none 0 0] 26)) w3.heap.size 26 (.slice none 0 0) := Boxed.new w3 _ _
  generalize hw4 : w3.alloc (.cells #[.slice none 0 0] 26) = w4 at a4 ⊢
  have z4 : w4.heap.size = w3.heap.size + 1 := by subst hw4; simp
  have b4 : Below w3.heap.size w3 w4 := by subst hw4; exact (Below.refl _ _).alloc (Nat.le_refl _) _
  have b24 : Below w2.heap.size w2 w4 := b3.trans (b4.mono (by omega))
  have b14 : Below w1.heap.size w1 w4 := b2.trans (b24.mono (by omega))
  have e1 : w1.heap.size = w.heap.size + 1 := by omega
  have e2 : w2.heap.size = w.heap.size + 2 := by omega
  have e3 : w3.heap.size = w.heap.size + 3 := by omega
  refine ⟨(b14.block _ (by omega)).trans a1, ?_, ?_, ?_, by omega, b1.trans (b14.mono (by omega))⟩
  · rw [← e1]; exact (b24.block _ (by omega)).trans a2
  · rw [← e2]; exact (b4.block _ (by omega)).trans a3
  · rw [← e3]; exact a4
theorem XB.frm {w W W' : World} {key nonce : List UInt8} {v : Value} (h : XB w W key nonce v) {M : Nat → Prop} (hf : Fr M W W') (hM : ∀ j, M j → w.heap.size + 4 ≤ j) : XB w W' key nonce v := by
  have hs := h.sz
  have hz := hf.size
  refine ⟨(hf.block _ (by omega) (fun e => by have := hM _ e; omega)).trans h.k, (hf.block _ (by omega) (fun e => by have := hM _ e; omega)).trans h.n, (hf.block _ (by omega) (fun e => by have := hM _ e; omega)).trans h.b,
    (hf.block _ (by omega) (fun e => by have := hM _ e; omega)).trans h.r, by omega, ?_⟩
  exact ((Fr.of_below h.fr).trans (M := fun j => w.heap.size + 4 ≤ j) hf (fun i _ h => hM _ h)).to_below (fun i hi => by omega)

theorem Fr.to_below' {M : Nat → Prop} {a b : World} {B : Nat} (h : Fr M a b) (hM : ∀ j, j < B → ¬ M j) (hB : B ≤ a.heap.size) : Below B a b := ⟨h.os, h.tape, h.output, h.size, fun i hi => h.block i (by omega) (hM i hi)⟩
/-- m bytes are made -/
structure XI (w W : World) (key nonce : List UInt8) (v : Value) (L : List UInt8) (g9 m : Nat) (A' : Option Addr) (c' : Nat) : Prop where
  x : XB w W key nonce v
  o : Boxed W g9 26 (.slice A' m c')
  own : W.ownsRow (w.heap.size + 4) 5 1 (.slice A' m c') m (bs (L.take m))
  blk : ∀ j, (Value.slice A' m c').ownBlock = some j → j = w.heap.size + 4 ∨ g9 + 6 ≤ j
  hi : w.heap.size + 4 < g9
theorem XI.frm {w W W' : World} {key nonce : List UInt8} {v : Value} {L : List UInt8} {g9 m c' : Nat} {A' : Option Addr} (h : XI w W key nonce v L g9 m A' c') {M : Nat → Prop} (hf : Fr M W W') (hM : ∀ j, M j → g9 < j ∧ j < g9 + 6) : XI w W' key nonce v L g9 m A' c' := by
  have := h.hi
  exact ⟨h.x.frm hf (fun j hj => by have := hM j hj; omega), Boxed.fr' h.o hf (fun e => by have := hM _ e; omega), own_frC h.own hf (fun j hj e => by have := hM _ e; have := h.blk j hj; omega), h.blk, h.hi⟩
/-- how the rounds end early -/
def XEnd (w : World) (key nonce : List UInt8) (v : Value) (L : List UInt8) (g9 n : Nat) (c : Code) (W : World) : Prop :=
  (c = .ret ∧ ∃ A' c', Boxed W (w.heap.size + 3) 26 (.slice A' n c') ∧ W.ownsRow (w.heap.size + 4) 5 1 (.slice A' n c') n (bs L) ∧ (∀ j, (Value.slice A' n c').ownBlock = some j → j = w.heap.size + 4 ∨ g9 + 6 ≤ j) ∧ Below w.heap.size w W ∧ w.heap.size + 4 < g9) ∨
  (c = .exit 0 ∧ ∃ A' c', XI w W key nonce v L g9 n A' c')
theorem XEnd.frm {w W W' : World} {key nonce : List UInt8} {v : Value} {L : List UInt8} {g9 n : Nat} {c : Code} (h : XEnd w key nonce v L g9 n c W) {M : Nat → Prop} (hf : Fr M W W') (hM : ∀ j, M j → g9 < j ∧ j < g9 + 6) : XEnd w key nonce v L g9 n c W' := by
  rcases h with ⟨e, A', c', h1, h2, h3, h4, h5⟩ | ⟨e, A', c', h⟩
  · exact .inl ⟨e, A', c', Boxed.fr' h1 hf (fun e => by have := hM _ e; omega), own_frC h2 hf (fun j hj e => by have := hM _ e; have := h3 j hj; omega), h3, ((Fr.of_below h4).trans (M := M) hf (fun _ _ h => h)).to_below (fun i hi e => by have := hM _ e; omega), h5⟩
  · exact .inr ⟨e, A', c', h.frm hf hM⟩

set_option maxRecDepth 100000 in
set_option maxHeartbeats 4000000 in
theorem Xor_any (w : World) (key nonce : List UInt8) (ctr : BitVec 32) (hk : key.length = 32) (hn : nonce.length = 12) {F : Nat → Prop} {A : Option Addr} {n c : Nat} {b : List UInt8} (hs : Sl w F A n c b) (hF : ∀ k, F k → k < w.heap.size) (hb : n ≤ 1000000) :
    Calls Try.prog 21 #[.agg (bs key).toArray, .int .u32 (wv ctr), .agg (bs nonce).toArray, .slice A n c] w fun e w' => ∃ A' c', e = .returned (.slice A' n c') ∧ w'.ownsRow w.heap.size 5 1 (.slice A' n c') n (bs (xorP key ctr nonce b)) ∧ Below w.heap.size w w' := by
  have Hs := Lib.hid hs; have HF := Lib.hid hF; have Hk := Lib.hid hk; have Hn := Lib.hid hn; have Hb := Lib.hid hb
  clear hs hF hk hn hb
  refine calls_of_marks Try.func21 rfl ?_
  simp only [Try.ntmps21, List.size_toArray, List.length_cons, List.length_nil, Nat.reduceAdd, Nat.reduceSub, Array.replicate_succ, Array.replicate_zero, List.push_toArray, List.append_toArray, List.nil_append, List.cons_append]
  have X4 : Hid (XB w ((((w.alloc (.cells (bs key).toArray 23)).alloc (.cells (bs nonce).toArray 25)).alloc (.cells #[.slice A n c] 26)).alloc (.cells #[.slice none 0 0] 26)) key nonce (.slice A n c)) := XB.start w key nonce _
  have z4 : Hid (((((w.alloc (.cells (bs key).toArray 23)).alloc (.cells (bs nonce).toArray 25)).alloc (.cells #[.slice A n c] 26)).alloc (.cells #[.slice none 0 0] 26)).heap.size = w.heap.size + 4) := by show _ = _; simp
  obtain ⟨i0, hi0, hz0, hz1, hz2⟩ := info_parts Try.infoB
  have Hi0 := Lib.hid hi0; have Hz0 := Lib.hid hz0; have Hz1 := Lib.hid hz1; have Hz2 := Lib.hid hz2
  clear hi0 hz0 hz1 hz2
  have hc : n = 0 ∨ n ≠ 0 := by omega
  rcases hc with hc | hc
  · have hcI : ((n : Int) == 0) = true := by simp [hc]
    have Hc := Lib.hid hc
    clear hc
    go_wp2_with (first
      | (refine wpList_make_own _ rfl (.const (.int .i64 0)) (.tmp 14) 26 rfl (w.heap.size + 4) 5 i0 (.int .u8 0) 1 Try.underlying26 Hi0.out Hz0.out Hz1.out .i64 .i64 (n : Int) n rfl rfl rfl (by rw [Hz2.out]; have := Hb.out; omega) (by have := Hb.out; simp only [maxLen]; omega) (by rw [z4.out]; exact Nat.le_refl _) ?_
         intro w1 hown1 hg1
         have X1 : XB w w1 key nonce (.slice A n c) := X4.out.frm (Fr.of_grown hg1) (fun j e => by cases e)
         have hz1 : w.heap.size + 4 < w1.heap.size := by
           have := (hown1.lt (w.heap.size + 4) (by rw [z4.out]; rfl)).2
           omega
         rw [z4.out] at hown1
         have X5 : Hid (XB w (w1.alloc (.cells #[.slice (some ⟨w.heap.size + 4, 0, none⟩) 0 n] 26)) key nonce (.slice A n c)) := X1.frm ((Fr.refl NoB w1).alloc _) (fun j e => e.elim)
         have O5 : Hid ((w1.alloc (.cells #[.slice (some ⟨w.heap.size + 4, 0, none⟩) 0 n] 26)).ownsRow (w.heap.size + 4) 5 1 (.slice (some ⟨w.heap.size + 4, 0, none⟩) 0 n) 0 []) := hown1.alloc _
         have B9 : Hid (Boxed (w1.alloc (.cells #[.slice (some ⟨w.heap.size + 4, 0, none⟩) 0 n] 26)) w1.heap.size 26 (.slice (some ⟨w.heap.size + 4, 0, none⟩) 0 n)) := Boxed.new _ _ _
         have Z5 : Hid (w.heap.size + 4 < w1.heap.size ∧ (w1.alloc (.cells #[.slice (some ⟨w.heap.size + 4, 0, none⟩) 0 n] 26)).heap.size = w1.heap.size + 1) := by
           show _ ∧ _
           exact ⟨hz1, by simp⟩
         have c7 : (w1.alloc (.cells #[.slice (some ⟨w.heap.size + 4, 0, none⟩) 0 n] 26)).cell? ⟨w.heap.size + 2, 0, none⟩ = some (.slice A n c) := X5.out.b.cell
         have r1 : Hid ((w1.alloc (.cells #[.slice (some ⟨w.heap.size + 4, 0, none⟩) 0 n] 26)).rangeAt w.heap.size 0 (bs key)) := range_block X5.out.k
         have r2 : Hid ((w1.alloc (.cells #[.slice (some ⟨w.heap.size + 4, 0, none⟩) 0 n] 26)).rangeAt (w.heap.size + 1) 0 (bs nonce)) := range_block X5.out.n
         have c9 : (w1.alloc (.cells #[.slice (some ⟨w.heap.size + 4, 0, none⟩) 0 n] 26)).cell? ⟨w1.heap.size, 0, none⟩ = some (.slice (some ⟨w.heap.size + 4, 0, none⟩) 0 n) := B9.out.cell
         have c8 : (w1.alloc (.cells #[.slice (some ⟨w.heap.size + 4, 0, none⟩) 0 n] 26)).cell? ⟨w.heap.size + 3, 0, none⟩ = some (.slice none 0 0) := X5.out.r.cell
         have f8 : (w1.alloc (.cells #[.slice (some ⟨w.heap.size + 4, 0, none⟩) 0 n] 26)).frozen? ⟨w.heap.size + 3, 0, none⟩ = false := X5.out.r.frozen
         clear hown1 hg1 X1 hz1))
    simp only [Nat.add_assoc, Nat.reduceAdd]
    have F8 := (Fr.refl (fun j => j = w.heap.size + 3) (w1.alloc (.cells #[.slice (some ⟨w.heap.size + 4, 0, none⟩) 0 n] 26))).setCell (p := ⟨w.heap.size + 3, 0, none⟩) (.inl rfl) (.slice (some ⟨w.heap.size + 4, 0, none⟩) 0 n)
    have e0 := (Boxed.set (.slice (some ⟨w.heap.size + 4, 0, none⟩) 0 n) X5.out.r).cell
    have hb0 : b = [] := List.eq_nil_of_length_eq_zero (by rw [Hs.out.len]; exact Hc.out)
    have hn0 : n = 0 := Hc.out
    refine ⟨.slice (some ⟨w.heap.size + 4, 0, none⟩) 0 n, by simp [results, Try.results21, go_sem, e0]; try rfl, some ⟨w.heap.size + 4, 0, none⟩, n, by rw [hn0], ?_, ?_⟩
    · have h := own_mono (own_frC O5.out F8 (fun j hj => by injection hj with hj; simp at hj; omega)) (show w.heap.size ≤ w.heap.size + 4 by omega)
      subst hb0
      rw [hn0] at h ⊢
      exact h
    · exact ((Fr.of_below X5.out.fr).trans F8 (fun _ _ h => h)).to_below (fun j hj => by omega)
  · have hcI : ((n : Int) == 0) = false := by simp [hc]
    have u1 := Lib.hid Try.underlying23
    have u2 := Lib.hid Try.underlying25
    have i1 : Hid ((Try.prog.info? 23).map (·.size) = some (bs key).length) := by rw [bs_length, Hk.out]; exact Try.sizeK
    have i2 : Hid ((Try.prog.info? 25).map (·.size) = some (bs nonce).length) := by rw [bs_length, Hn.out]; exact Try.sizeN
    go_wp2_with (first
      | (refine wpList_make_own _ rfl (.const (.int .i64 0)) (.tmp 14) 26 rfl (w.heap.size + 4) 5 i0 (.int .u8 0) 1 Try.underlying26 Hi0.out Hz0.out Hz1.out .i64 .i64 (n : Int) n rfl rfl rfl (by rw [Hz2.out]; have := Hb.out; omega) (by have := Hb.out; simp only [maxLen]; omega) (by rw [z4.out]; exact Nat.le_refl _) ?_
         intro w1 hown1 hg1
         have X1 : XB w w1 key nonce (.slice A n c) := X4.out.frm (Fr.of_grown hg1) (fun j e => by cases e)
         have hz1 : w.heap.size + 4 < w1.heap.size := by
           have := (hown1.lt (w.heap.size + 4) (by rw [z4.out]; rfl)).2
           omega
         rw [z4.out] at hown1
         have X5 : Hid (XB w (w1.alloc (.cells #[.slice (some ⟨w.heap.size + 4, 0, none⟩) 0 n] 26)) key nonce (.slice A n c)) := X1.frm ((Fr.refl NoB w1).alloc _) (fun j e => e.elim)
         have O5 : Hid ((w1.alloc (.cells #[.slice (some ⟨w.heap.size + 4, 0, none⟩) 0 n] 26)).ownsRow (w.heap.size + 4) 5 1 (.slice (some ⟨w.heap.size + 4, 0, none⟩) 0 n) 0 []) := hown1.alloc _
         have B9 : Hid (Boxed (w1.alloc (.cells #[.slice (some ⟨w.heap.size + 4, 0, none⟩) 0 n] 26)) w1.heap.size 26 (.slice (some ⟨w.heap.size + 4, 0, none⟩) 0 n)) := Boxed.new _ _ _
         have Z5 : Hid (w.heap.size + 4 < w1.heap.size ∧ (w1.alloc (.cells #[.slice (some ⟨w.heap.size + 4, 0, none⟩) 0 n] 26)).heap.size = w1.heap.size + 1) := by
           show _ ∧ _
           exact ⟨hz1, by simp⟩
         have c7 : (w1.alloc (.cells #[.slice (some ⟨w.heap.size + 4, 0, none⟩) 0 n] 26)).cell? ⟨w.heap.size + 2, 0, none⟩ = some (.slice A n c) := X5.out.b.cell
         have r1 : Hid ((w1.alloc (.cells #[.slice (some ⟨w.heap.size + 4, 0, none⟩) 0 n] 26)).rangeAt w.heap.size 0 (bs key)) := range_block X5.out.k
         have r2 : Hid ((w1.alloc (.cells #[.slice (some ⟨w.heap.size + 4, 0, none⟩) 0 n] 26)).rangeAt (w.heap.size + 1) 0 (bs nonce)) := range_block X5.out.n
         clear hown1 hg1 X1 hz1)
      | ((with_reducible refine lst_load_mid 23 (.tmp 4) rfl w.heap.size 0 rfl (bs key) _ r1.out u1.out rfl i1.out ?_ ?_)
         (focus rfl))
      | ((with_reducible refine lst_load_mid 25 (.tmp 6) rfl (w.heap.size + 1) 0 rfl (bs nonce) _ r2.out u2.out rfl i2.out ?_ ?_)
         (focus rfl)))
    simp only [Nat.add_assoc, Nat.reduceAdd]
    generalize (w1.alloc (.cells #[.slice (some ⟨w.heap.size + 4, 0, none⟩) 0 n] 26)) = w5 at X5 O5 B9 Z5 c7 r1 r2 ⊢
    generalize w1.heap.size = g9 at B9 Z5 ⊢
    clear c7 r1 r2 u1 u2 i1 i2 X4 z4
    refine (stream_any w5 key nonce ctr).mono ?_
    rintro e w6 ⟨rfl, hw6⟩
    have Y6 := stream_boxes w5 key nonce ctr w6 hw6
    clear hw6
    have Y := Lib.hid Y6
    have f56 := Fr.of_below (M := NoB) Y6.2.2.2.2
    have X6 : Hid (XB w w6 key nonce (.slice A n c)) := X5.out.frm f56 (fun j e => e.elim)
    have z56 : Hid (w6.heap.size = g9 + 4) := by have := Z5.out; have := Y6.2.2.2.1; show _ = _; omega
    have Y1 : Hid (w6.heap[g9 + 1]? = some (.cells (bs key).toArray 23 (0, 0)) ∧ w6.heap[g9 + 1 + 1]? = some (.cells #[.int .u32 (wv ctr)] 49 (0, 0)) ∧ w6.heap[g9 + 1 + 2]? = some (.cells (bs nonce).toArray 25 (0, 0))) := by
      have h := Y6
      rw [show w5.heap.size = g9 + 1 from Z5.out.2] at h
      exact ⟨h.1, h.2.1, h.2.2.1⟩
    have hsz5 := Z5.out.2
    rw [hsz5]
    have B6 : Hid (Boxed w6 g9 26 (.slice (some ⟨w.heap.size + 4, 0, none⟩) 0 n)) := Boxed.fr' B9.out f56 id
    have O6 : Hid (w6.ownsRow (w.heap.size + 4) 5 1 (.slice (some ⟨w.heap.size + 4, 0, none⟩) 0 n) 0 []) := own_frC O5.out f56 (fun _ _ e => e)
    have Hg9 : Hid (w.heap.size + 4 < g9) := Z5.out.1
    clear X5 O5 B9 Z5 Y6 f56 Y hsz5
    go_wp2_with fail
    obtain ⟨L, hL⟩ : ∃ L, L = xorP key ctr nonce b := ⟨_, rfl⟩
    have HL := Lib.hid hL
    have HLn : Hid (L.length = n) := by rw [hL, xorP_len]; exact Hs.out.len
    clear hL
    have hD : w6.heap.size = g9 + 4 := z56.out
    have I6 : Hid (XI w w6 key nonce (.slice A n c) L g9 0 (some ⟨w.heap.size + 4, 0, none⟩) n) := ⟨X6.out, B6.out, O6.out, (fun j hj => .inl (by injection hj with hj; exact hj.symm)), Hg9.out⟩
    clear X6 B6 O6 Hi0 Hz0 Hz1 Hz2
    refine wp_range (gf := 37) (lb := #[.pointer (some ⟨g9 + 1, 0, none⟩), .pointer (some ⟨g9 + 2, 0, none⟩), .pointer (some ⟨g9 + 3, 0, none⟩)]) rfl (enters_of Try.func37 (by kernel_rfl) rfl)
      (stream_iter Hk.out Hn.out Y1.out.1 Y1.out.2.1 Y1.out.2.2 (by omega) n (by have := Hb.out; omega)) (by rintro j (h | h | h) <;> omega) (by intro j h; have h : j = g9 + 2 := h; omega)
      (fun k W => Hid (64 * k < n ∧ ∃ A' c', XI w W key nonce (.slice A n c) L g9 (64 * k) A' c')) (fun cc W => Hid (XEnd w key nonce (.slice A n c) L g9 n cc W))
      (fun k W1 W2 h hf => ⟨h.out.1, h.out.2.choose, h.out.2.choose_spec.choose, h.out.2.choose_spec.choose_spec.frm hf (fun j hj => by omega)⟩) (fun cc W1 W2 h hf => h.out.frm hf (fun j hj => by omega)) ⟨by omega, _, _, I6.out⟩ (by rintro k W0 W1 args rfl; rfl) ?round
      (fun _ W h => by have := h.out.1; omega) ?done ?stop
    case round =>
      rintro k W0 W1 args hkN hi hsz0 hf0 rfl
      obtain ⟨hkn, A0, c0, hI0⟩ := hi.out
      have H0 : Hid (XI w W1 key nonce (.slice A n c) L g9 (64 * k) A0 c0) := hI0.frm hf0 (fun j hj => by omega)
      have Hkn := Lib.hid hkn
      have hz1 : Hid (g9 + 6 ≤ W1.heap.size) := by have := hf0.size; show _ ≤ _; omega
      clear hi hI0 hf0 hkn hsz0
      obtain ⟨io, hio, hzo, _, _⟩ := info_parts Try.infoO
      have Hio := Lib.hid hio; have Hzo := Lib.hid hzo
      clear hio hzo
      obtain ⟨P, hP⟩ : ∃ P, P = blockP key (ctr + BitVec.ofNat 32 k) nonce := ⟨_, rfl⟩
      rw [← hP]
      have HP := Lib.hid hP
      have HPL : Hid (P.length = 64) := by rw [hP]; exact blockP_len _ _ _
      clear hP
      have iP : Hid ((Try.prog.info? 61).map (·.size) = some (bs P).length) := by rw [bs_length, HPL.out]; exact Try.sizeO
      have uP := Lib.hid Try.underlying61
      simp only [List.zip_toArray, List.zip_cons_cons, List.zip_nil_right, List.foldl_toArray, List.foldl_cons, List.foldl_nil, List.setIfInBounds_toArray, List.set_cons_succ, List.set_cons_zero]
      gi_wp2_with (first
        | ((with_reducible refine lin_alloc_d (.inr ⟨_, rfl⟩) 10 rfl 61 rfl io _ Hio.out Hzo.out ?_ ?_)
           (focus rfl)
           intro g10 w2 Hg10 Hh10 hb2
           have Hb2 := Lib.hid hb2
           have Hh10' : Hid (w2.heap[g10]? = some (.cells (bs (List.replicate 64 0)).toArray 61 (0, 0))) := Hh10
           clear hb2)
        | ((with_reducible refine lin_store_abs (.inr ⟨_, rfl⟩) 61 (.tmp 10) (.tmp 24) rfl g10 61 (bs (List.replicate 64 0)).toArray (bs P).toArray rfl rfl Hh10'.out (by simpa using iP.out) (by simp [bs_length, HPL.out]) (by simp; exact bs_oneCell _) ?_ ?_)
           (focus rfl)
           intro w3 Hh3 hg3
           have Hg3 := Lib.hid hg3
           clear hg3))
      have hb13 : Below W1.heap.size W1 w3 := Hb2.out.grown Hg3.out Hb2.out.size (fun j hj => by injection hj with hj; have := Hg10.out; omega)
      refine ⟨Fr.of_below hb13, ?_⟩
      intro W3 hf3
      have X3 : Hid (XI w W3 key nonce (.slice A n c) L g9 (64 * k) A0 c0) := (H0.out.frm (M := NoB) (Fr.of_below hb13) (fun j hj => hj.elim)).frm hf3 (fun j hj => by omega)
      have hg10 : g9 + 6 ≤ g10 := by have := Hg10.out; have := hz1.out; omega
      have r10 : Hid (W3.rangeAt g10 0 (bs P)) := range_block (by rw [hf3.block g10 (Array.getElem?_eq_some_iff.1 Hh3.out).1 (by omega)]; exact Hh3.out)
      have Hz3 : Hid (g9 + 6 ≤ W3.heap.size) := by have := hf3.size; have := hb13.size; have := hz1.out; show _ ≤ _; omega
      clear hb13 hf3 H0 hz1 Hio Hzo Hg10 Hh10 Hb2 Hh10' Hh3 Hg3 hg10
      gi_wp2_with (first
        | ((with_reducible refine lin_load_mid (.inr ⟨_, rfl⟩) 61 (.tmp 10) rfl g10 0 rfl (bs P) _ r10.out uP.out rfl iP.out ?_ ?_)
           (focus rfl)))
      gi_loopw [26] (fun v wr => ∃ (i : Nat) (A' : Option Addr) (c' : Nat), i ≤ 64 ∧ v = .int .i64 (i : Nat) ∧ Hid (64 * k + i ≤ n) ∧ Hid (XI w wr key nonce (.slice A n c) L g9 (64 * k + i) A' c') ∧ Hid (Fr (Bd (fun j => j = g9 + 1 ∨ j = g9 + 1 + 1 ∨ j = g9 + 1 + 2) w6.heap.size) W3 wr)) (fun v _ => 64 - (intOf v).toNat)
      case atStart => exact ⟨0, A0, c0, Nat.zero_le _, rfl, by have := Hkn.out; show _ ≤ _; omega, X3.out, Fr.refl _ _⟩
      case round =>
        obtain ⟨i, A', c', hi, rfl, Hin, HX, HF3⟩ := hrel
        obtain ⟨m, hm⟩ : ∃ m, m = 64 * k + i := ⟨_, rfl⟩
        rw [← hm] at Hin HX
        have Hm := Lib.hid hm
        clear hm X3 r10
        have b9 := HX.out.o.cell
        have b7 := HX.out.x.b.cell
        have hmn : m ≤ n := Hin.out
        by_cases hlt : i < 64
        · have hiI : (i : Int) < 64 := by omega
          have hi0 : (0 : Int) ≤ (i : Int) := by omega
          have hix := Lib.hid (run_index_by wr 61 64 P uP.out HPL.out i (by rw [HPL.out]; exact hlt))
          obtain ⟨x, hx⟩ : ∃ x, x = P[i]'(by rw [HPL.out]; exact hlt) := ⟨_, rfl⟩
          rw [← hx] at hix
          have Hx := Lib.hid hx
          clear hx
          have hxv : bv x = .int .u8 (x.toNat : Int) := rfl
          rw [hxv] at hix
          by_cases heq : m = n
          · subst heq
            have hcmp : ((m : Int) == (m : Int)) = true := by simp
            have b8 := HX.out.x.r.cell
            have f8 := HX.out.x.r.frozen
            gi_wp2_with (first
              | ((with_reducible refine lin_index (.inr ⟨_, rfl⟩) 61 (.tmp 25) (.tmp 26) rfl (.agg (bs P).toArray) (.int .i64 (i : Nat)) _ rfl rfl hix.out ?_ ?_)
                 (focus rfl)))
            have F8 : Fr (fun j => j = w.heap.size + 3) wr (wr.setCell ⟨w.heap.size + 3, 0, none⟩ (.slice A' m c')) := (Fr.refl (fun j => j = w.heap.size + 3) wr).setCell (p := ⟨w.heap.size + 3, 0, none⟩) (.inl rfl) _
            have h9 := HX.out.hi
            refine ⟨HF3.out.trans F8 (fun j _ e => ⟨by omega, by omega, by omega⟩), Lib.hid (.inl ⟨rfl, A', c', Boxed.set _ HX.out.x.r, ?_, HX.out.blk, ?_, h9⟩)⟩
            · have h := own_frC HX.out.own F8 (fun j hj e => by have := HX.out.blk j hj; omega)
              rw [List.take_of_length_le (by rw [HLn.out]; exact Nat.le_refl _)] at h
              exact h
            · exact ((Fr.of_below HX.out.x.fr).trans F8 (fun _ _ h => h)).to_below (fun i hi e => by omega)
          · have hmlt : m < n := by omega
            have hcmp : ((m : Int) == (n : Int)) = false := by simp; omega
            gi_wp2_with (first
              | ((with_reducible refine lin_index (.inr ⟨_, rfl⟩) 61 (.tmp 25) (.tmp 26) rfl (.agg (bs P).toArray) (.int .i64 (i : Nat)) _ rfl rfl hix.out ?_ ?_)
                 (focus rfl)))
            have hml : m < b.length := by have := Hs.out.len; omega
            obtain ⟨ad, hA, hcb⟩ := Hs.out.rd m _ (bs_get b m hml)
            subst hA
            have hblk : ad.block < w.heap.size := HF.out _ (Hs.out.foot ad rfl (fun e => by have h2 := bs_length b; rw [e] at h2; simp at h2; omega))
            obtain ⟨y, hy⟩ : ∃ y, y = b[m] := ⟨_, rfl⟩
            rw [← hy] at hcb
            have Hy := Lib.hid hy
            clear hy
            have hcb2 : Hid (wr.drew.cell? (ad.add m) = some (.int .u8 (y.toNat : Int))) := cell_fr hcb ((Fr.of_below (M := NoB) HX.out.x.fr).drew) id
            have hbk : Hid ((ad.add m).block < w.heap.size) := by show _ < _; rw [addr_add_block]; exact hblk
            have b9d : Hid (wr.drew.cell? ⟨g9, 0, none⟩ = some (.slice A' m c')) := b9
            have b7d : Hid (wr.drew.cell? ⟨w.heap.size + 2, 0, none⟩ = some (.slice (some ad) n c)) := b7
            have hxy := xor_byte y x
            obtain ⟨z, hz⟩ : ∃ z, z = y ^^^ x := ⟨_, rfl⟩
            rw [← hz] at hxy
            have Hzz := Lib.hid hz
            clear hz
            have hmI : (m : Int) < (n : Int) := by omega
            have hm0 : (0 : Int) ≤ (m : Int) := by omega
            have HXd : Hid (XI w wr.drew key nonce (.slice (some ad) n c) L g9 m A' c') := HX.out.frm (M := NoB) ((Fr.refl NoB wr).drew) (fun j hj => hj.elim)
            refine wpIn_region_os (by kernel_rfl) (fun ⟨_, _, h⟩ => h) (fun i w' => match i with
              | 0 => w'.cell? ⟨g9, 0, none⟩ = some (.slice A' m c')
              | 1 => w'.cell? ⟨w.heap.size + 2, 0, none⟩ = some (.slice (some ad) n c)
              | 2 => w'.cell? ⟨g9, 0, none⟩ = some (.slice A' m c')
              | 5 => w'.cell? (ad.add m) = some (.int .u8 (y.toNat : Int))
              | _ => True) [0, 1, 2, 5]
              (.take 0 (.take 1 (.take 2 (.move 3 (.move 4 (.take 5 (.move 6 (.move 7 (.run 8 [0, 1, 2, 5] (.run 9 [0, 1, 2, 5] (.run 10 [] .done))))))))))) (by kernel_rfl) (by kernel_rfl) (fun _ _ _ _ _ h => h) ?_
            refine os_yld b9d.out rfl rfl rfl (Nat.le_of_ble_eq_true rfl) ?_
            apply Exists.intro
            refine ⟨fun w' hS' K hK => ?_, ?_⟩
            (focus
              have hS2 : (fun w' => w'.cell? ⟨g9, 0, none⟩ = some (.slice A' m c')) w' := hS'
              clear hS'
              try dsimp only at hS2
              go_simp
              exact hK)
            refine os_yld b7d.out rfl rfl rfl (Nat.le_of_ble_eq_true rfl) ?_
            apply Exists.intro
            refine ⟨fun w' hS' K hK => ?_, ?_⟩
            (focus
              have hS2 : (fun w' => w'.cell? ⟨w.heap.size + 2, 0, none⟩ = some (.slice (some ad) n c)) w' := hS'
              clear hS'
              try dsimp only at hS2
              go_simp
              exact hK)
            refine os_yld b9d.out rfl rfl rfl (Nat.le_of_ble_eq_true rfl) ?_
            apply Exists.intro
            refine ⟨fun w' hS' K hK => ?_, ?_⟩
            (focus
              have hS2 : (fun w' => w'.cell? ⟨g9, 0, none⟩ = some (.slice A' m c')) w' := hS'
              clear hS'
              try dsimp only at hS2
              go_simp
              exact hK)
            iterate 2 (
              refine os_move rfl rfl rfl (Nat.le_of_ble_eq_true rfl) ?_
              apply Exists.intro
              refine ⟨fun w' K hK => ?_, ?_⟩
              (focus
                go_simp
                exact hK))
            refine os_yld hcb2.out rfl rfl rfl (Nat.le_of_ble_eq_true rfl) ?_
            apply Exists.intro
            refine ⟨fun w' hS' K hK => ?_, ?_⟩
            (focus
              have hS2 : (fun w' => w'.cell? (ad.add m) = some (.int .u8 (y.toNat : Int))) w' := hS'
              clear hS'
              try dsimp only at hS2
              go_simp
              exact hK)
            iterate 2 (
              refine os_move rfl rfl rfl (Nat.le_of_ble_eq_true rfl) ?_
              apply Exists.intro
              refine ⟨fun w' K hK => ?_, ?_⟩
              (focus
                go_simp
                exact hK))
            refine os_run rfl rfl (fun K hK => ?_)
            go_wp2_with fail
            refine ⟨?_, ?_⟩
            · intro i hi h
              simp only [List.mem_cons, List.not_mem_nil, or_false] at hi
              rcases hi with rfl | rfl | rfl | rfl <;> exact Lib.cell?_alloc_marked _ h
            have HX7 : Hid (XI w (wr.alloc (.cells #[.int .u8 (z.toNat : Int)] 5)).drew key nonce (.slice (some ad) n c) L g9 m A' c') := HX.out.frm (M := NoB) (((Fr.refl NoB wr).alloc _).drew) (fun j hj => hj.elim)
            have R7 : Hid (Rd (wr.alloc (.cells #[.int .u8 (z.toNat : Int)] 5)).drew (some ⟨wr.heap.size, 0, none⟩) (bs [z])) := Rd.one wr z
            have F7 : Hid (Fr (Bd (fun j => j = g9 + 1 ∨ j = g9 + 1 + 1 ∨ j = g9 + 1 + 2) w6.heap.size) W3 (wr.alloc (.cells #[.int .u8 (z.toNat : Int)] 5)).drew) := (HF3.out.alloc _).drew
            have Z7 : Hid (g9 + 6 ≤ (wr.alloc (.cells #[.int .u8 (z.toNat : Int)] 5)).drew.heap.size) := by
              have := HF3.out.size; have := Hz3.out
              show _ ≤ (wr.alloc _).heap.size
              simp; omega
            generalize (wr.alloc (.cells #[.int .u8 (z.toNat : Int)] 5)).drew = w7 at HX7 R7 F7 Z7 ⊢
            clear HX HXd b9 b7 b9d b7d hcb2 hcb HF3
            refine os_run rfl rfl (fun K hK => ?_)
            refine wp_append_bytes (.tmp 35) (.tmp 43) rfl (w.heap.size + 4) A' m c' (L.take m) rfl HX7.out.own (some ⟨wr.heap.size, 0, none⟩) 1 1 [z] rfl rfl R7.out (by have := Hb.out; omega) (by have := HX7.out.x.sz; omega) ?_
            intro A8 c8 w8 hown8 hg8 hat8
            have hi7 := HX7.out.hi
            have hfr8 : Fr (fun j => j = w.heap.size + 4 ∨ g9 + 6 ≤ j) w7 w8 := (Fr.of_grown hg8).mono (fun j _ h => HX7.out.blk j h.symm)
            refine hK _ _ ⟨?_, ?_⟩
            · intro i hi h
              simp only [List.mem_cons, List.not_mem_nil, or_false] at hi
              rcases hi with rfl | rfl | rfl | rfl
              · exact cell_fr h hfr8 (by show ¬ (g9 = w.heap.size + 4 ∨ g9 + 6 ≤ g9); omega)
              · exact cell_fr h hfr8 (by show ¬ (w.heap.size + 2 = w.heap.size + 4 ∨ g9 + 6 ≤ w.heap.size + 2); omega)
              · exact cell_fr h hfr8 (by show ¬ (g9 = w.heap.size + 4 ∨ g9 + 6 ≤ g9); omega)
              · exact cell_fr h hfr8 (by have := hbk.out; omega)
            have B8 : Hid (Boxed w8 g9 26 (.slice A' m c')) := Boxed.fr' HX7.out.o hfr8 (by omega)
            have X8 : Hid (XB w w8 key nonce (.slice (some ad) n c)) := HX7.out.x.frm hfr8 (fun j hj => by omega)
            have Hblk8 : Hid (∀ j, (Value.slice A8 (m + 1) c8).ownBlock = some j → j = w.heap.size + 4 ∨ g9 + 6 ≤ j) := fun j hj => by
              rcases hat8 with h | h
              · exact HX7.out.blk j (h.symm.trans hj)
              · rw [h] at hj; injection hj with hj; have := Z7.out; omega
            have Ho8 := Lib.hid hown8
            have F8 : Hid (Fr (Bd (fun j => j = g9 + 1 ∨ j = g9 + 1 + 1 ∨ j = g9 + 1 + 2) w6.heap.size) W3 w8) := F7.out.trans hfr8 (fun j _ h => ⟨by omega, by omega, by omega⟩)
            have c9 := B8.out.cell
            have f9 := B8.out.frozen
            have Hi7 := Lib.hid hi7
            clear hown8 hg8 hat8 hfr8 HX7 F7 Z7 R7 hK hi7
            refine os_run rfl rfl (fun K hK => ?_)
            go_wp2_with fail
            refine ⟨fun _ h => (by cases h), ?_⟩
            refine os_done ?_
            have F9 : Fr (fun j => j = g9) w8 (w8.setCell ⟨g9, 0, none⟩ (.slice A8 (m + 1) c8)) := (Fr.refl (fun j => j = g9) w8).setCell (p := ⟨g9, 0, none⟩) (.inl rfl) _
            have htk : L.take (m + 1) = L.take m ++ [z] := by
              have hml2 : m < L.length := by rw [HLn.out]; exact hmlt
              rw [List.take_succ_eq_append_getElem hml2]
              congr 2
              have e : L[m]? = some z := by
                rw [HL.out]
                unfold xorP
                rw [List.getElem?_map, List.getElem?_range (by omega)]
                simp only [Option.map_some]
                have h1 : m / 64 = k := by have := Hm.out; omega
                have h2 : m % 64 = i := by have := Hm.out; omega
                unfold ksP
                rw [h1, h2, ← HP.out, getD_eq hml, getD_eq (by rw [HPL.out]; exact hlt), ← Hy.out, ← Hx.out, ← Hzz.out]
              rw [List.getElem?_eq_getElem hml2] at e
              exact Option.some.inj e
            have X9 : Hid (XI w (w8.setCell ⟨g9, 0, none⟩ (.slice A8 (m + 1) c8)) key nonce (.slice (some ad) n c) L g9 (m + 1) A8 c8) := by
              have h9 := Hi7.out
              refine ⟨X8.out.frm F9 (fun j hj => by omega), Boxed.set _ B8.out, ?_, Hblk8.out, h9⟩
              rw [htk]
              exact own_frC Ho8.out F9 (fun j hj e => by have := Hblk8.out j hj; omega)
            have FF9 : Hid (Fr (Bd (fun j => j = g9 + 1 ∨ j = g9 + 1 + 1 ∨ j = g9 + 1 + 2) w6.heap.size) W3 (w8.setCell ⟨g9, 0, none⟩ (.slice A8 (m + 1) c8))) := F8.out.trans F9 (fun j _ h => ⟨by omega, by omega, by omega⟩)
            clear htk F9 c9 f9 B8 X8 Ho8 F8
            gi_wp2_with fail
            go_roundw
            case rel => exact ⟨i + 1, A8, c8, by omega, by go_num, by have := Hm.out; show 64 * k + (i + 1) ≤ n; omega, by rw [show 64 * k + (i + 1) = m + 1 by have := Hm.out; omega]; exact X9.out, FF9.out⟩
            case measure => simp [intOf]; omega
        · have hiI : decide ((i : Int) < 64) = false := decide_eq_false (by omega)
          have hi64 : i = 64 := by omega
          have hm64 : m = 64 * (k + 1) := by have := Hm.out; omega
          have Hm64 := Lib.hid hm64
          have HX64 := Lib.hid HX.out
          clear hi64 hlt hi hm64
          by_cases heq : m = n
          · subst heq
            have hcmp : ((m : Int) == (m : Int)) = true := by simp
            gi_wp2_with fail
            exact ⟨HF3.out, Lib.hid (.inr ⟨rfl, A', c', HX64.out⟩)⟩
          · have hcmp : ((m : Int) == (n : Int)) = false := by simp; omega
            gi_wp2_with fail
            refine ⟨HF3.out, Lib.hid ⟨by have := Hm64.out; omega, A', c', ?_⟩⟩
            rw [← Hm64.out]; exact HX64.out
    case done =>
      intro W h _
      exact absurd h.out.1 (by omega)
    case stop =>
      intro cc W h hDf
      have HDf := Lib.hid hDf
      clear hDf
      rcases h.out with ⟨rfl, A', c', h1, h2, h3, h4, h5⟩ | ⟨rfl, A', c', hX⟩
      · have H1 := Lib.hid h1; have H2 := Lib.hid h2; have H4 := Lib.hid h4; have H3 := Lib.hid h3
        clear h h1 h2 h3 h4 I6
        go_wp2_with fail
        refine ⟨by simp, .inl ⟨_, _, rfl, run_takeDeferred HDf.out, ?_⟩⟩
        have hF : Fr (fun j => j = w6.heap.size) W (W.putObj w6.heap.size (.deferred none)) := (Fr.refl (fun j => j = w6.heap.size) W).putObj (.inl rfl) _
        have e0 := (Boxed.fr' H1.out hF (by omega)).cell
        refine ⟨.slice A' n c', by simp [results, Try.results21, go_sem, e0]; try rfl, A', c', rfl, ?_, ?_⟩
        · have h := own_mono (own_frC H2.out hF (fun j hj => by have := H3.out j hj; omega)) (show w.heap.size ≤ w.heap.size + 4 by omega)
          rw [HL.out] at h; exact h
        · exact H4.out.trans (Fr.to_below' hF (fun j hj => by omega) H4.out.size)
      · have HX := Lib.hid hX
        have b9 := hX.o.cell
        have b8 := hX.x.r.cell
        have f8 := hX.x.r.frozen
        clear h hX I6
        go_wp2_with fail
        have h9 := HX.out.hi
        have F8 : Fr (fun j => j = w.heap.size + 3) W (W.setCell ⟨w.heap.size + 3, 0, none⟩ (.slice A' n c')) := (Fr.refl (fun j => j = w.heap.size + 3) W).setCell (p := ⟨w.heap.size + 3, 0, none⟩) (.inl rfl) _
        have hDf8 : (W.setCell ⟨w.heap.size + 3, 0, none⟩ (.slice A' n c')).heap[w6.heap.size]? = some (.deferred (some [])) := (F8.block _ (Array.getElem?_eq_some_iff.1 HDf.out).1 (by omega)).trans HDf.out
        refine ⟨by simp, .inl ⟨_, _, rfl, run_takeDeferred hDf8, ?_⟩⟩
        have hF : Fr (fun j => j = w.heap.size + 3 ∨ j = w6.heap.size) W ((W.setCell ⟨w.heap.size + 3, 0, none⟩ (.slice A' n c')).putObj w6.heap.size (.deferred none)) := (F8.mono (fun _ _ h => .inl h)).putObj (.inl (.inr rfl)) _
        have e0 := (Boxed.fr' (Boxed.set (.slice A' n c') HX.out.x.r) ((Fr.refl (fun j => j = w6.heap.size) (W.setCell ⟨w.heap.size + 3, 0, none⟩ (.slice A' n c'))).putObj (.inl rfl) (.deferred none)) (by omega)).cell
        refine ⟨.slice A' n c', by simp [results, Try.results21, go_sem, e0]; try rfl, A', c', rfl, ?_, ?_⟩
        · have h := own_mono (own_frC HX.out.own hF (fun j hj => by have := HX.out.blk j hj; omega)) (show w.heap.size ≤ w.heap.size + 4 by omega)
          rw [List.take_of_length_le (by rw [HLn.out]; exact Nat.le_refl _), HL.out] at h; exact h
        · exact HX.out.x.fr.trans (Fr.to_below' hF (fun j hj => by omega) HX.out.x.fr.size)
end Go.Proofs.Ytklclbppdoahjaa
