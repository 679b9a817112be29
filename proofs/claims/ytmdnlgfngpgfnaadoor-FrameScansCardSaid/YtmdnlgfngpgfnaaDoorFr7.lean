/- The sum is linear. -/
import Derived.Test.YtmdnlgfngpgfnaaDoorFr6
namespace Go.Proofs.YtmdnlgfngpgfnaaDoor
open Go.RowKit

def x3 : List UInt8 → List UInt8 → List UInt8 → List UInt8
  | a :: xs, b :: ys, c :: zs => (a ^^^ b ^^^ c) :: x3 xs ys zs
  | _, _, _ => []
theorem x3_append : ∀ (xs ys zs : List UInt8) (a b c : UInt8), xs.length = ys.length → xs.length = zs.length → x3 (xs ++ [a]) (ys ++ [b]) (zs ++ [c]) = x3 xs ys zs ++ [a ^^^ b ^^^ c]
  | [], [], [], _, _, _, _, _ => rfl
  | x :: xs, y :: ys, z :: zs, a, b, c, h, h' => by
    simp only [List.cons_append, x3]
    rw [x3_append xs ys zs a b c (by simpa using h) (by simpa using h')]
  | [], _ :: _, _, _, _, _, h, _ => by simp at h
  | [], [], _ :: _, _, _, _, _, h => by simp at h
  | _ :: _, [], _, _, _, _, h, _ => by simp at h
  | _ :: _, _ :: _, [], _, _, _, _, h => by simp at h
theorem x3_take {xs ys zs : List UInt8} {k : Nat} (ha : k < xs.length) (hb : k < ys.length) (hc : k < zs.length) :
    x3 (xs.take (k + 1)) (ys.take (k + 1)) (zs.take (k + 1)) = x3 (xs.take k) (ys.take k) (zs.take k) ++ [xs[k] ^^^ ys[k] ^^^ zs[k]] := by
  rw [List.take_succ_eq_append_getElem ha, List.take_succ_eq_append_getElem hb, List.take_succ_eq_append_getElem hc]
  exact x3_append _ _ _ _ _ _ (by simp; omega) (by simp; omega)

theorem xor_byte (a b : UInt8) : bits .xor .u8 (a.toNat : Int) (b.toNat : Int) = ((a ^^^ b).toNat : Int) := by
  show IntKind.u8.wrap ((BitVec.ofInt _ _ ^^^ BitVec.ofInt _ _).toNat : Int) = _
  have e : ∀ u : UInt8, BitVec.ofInt (IntKind.u8.bits) (u.toNat : Int) = u.toBitVec := fun u => by
    apply BitVec.eq_of_toNat_eq
    have := u.toNat_lt
    show (BitVec.ofInt 8 _).toNat = _
    rw [BitVec.toNat_ofInt]
    simp only [Nat.reducePow]
    show _ = u.toNat
    omega
  rw [e, e]
  have h := (a ^^^ b).toNat_lt
  show IntKind.u8.wrap ((a ^^^ b).toNat : Int) = _
  generalize (a ^^^ b).toNat = x at h
  simp [IntKind.wrap, IntKind.signed, IntKind.bits]
  omega
theorem tab_xor : ∀ i j : Fin 16, tab (i.val ^^^ j.val) = tab i.val ^^^ tab j.val := by decide +kernel
theorem and15 (x : BitVec 32) : (x &&& 15#32).toNat < 16 := by
  rw [BitVec.toNat_and]
  exact Nat.lt_of_le_of_lt Nat.and_le_right (by decide)
theorem st4_xor (x y : BitVec 32) : st4 (x ^^^ y) = st4 x ^^^ st4 y := by
  have h1 : ((x ^^^ y) &&& 15#32).toNat = (x &&& 15#32).toNat ^^^ (y &&& 15#32).toNat := by
    rw [← BitVec.toNat_xor]
    congr 1
    ext i hi
    simp
    cases x[i] <;> cases y[i] <;> simp
  have h2 := tab_xor ⟨(x &&& 15#32).toNat, and15 x⟩ ⟨(y &&& 15#32).toNat, and15 y⟩
  unfold st4
  rw [h1, h2, BitVec.ushiftRight_xor_distrib]
  ac_rfl
theorem byteW_xor (a b : UInt8) : byteW (a ^^^ b) = byteW a ^^^ byteW b := by
  apply BitVec.eq_of_toNat_eq
  rw [BitVec.toNat_xor]
  have ha := a.toNat_lt; have hb := b.toNat_lt
  have hx := (a ^^^ b).toNat_lt
  simp only [Nat.reducePow] at ha hb hx
  simp only [byteW, BitVec.toNat_ofNat, Nat.reducePow]
  rw [Nat.mod_eq_of_lt (by omega), Nat.mod_eq_of_lt (by omega), Nat.mod_eq_of_lt (by omega), UInt8.toNat_xor]
theorem upd_xor (x y : BitVec 32) (a b : UInt8) : upd (x ^^^ y) (a ^^^ b) = upd x a ^^^ upd y b := by
  unfold upd
  rw [byteW_xor, ← st4_xor, ← st4_xor]
  congr 2
  ac_rfl
theorem fold_x3 : ∀ (xs ys zs : List UInt8) (x y z : BitVec 32), xs.length = ys.length → xs.length = zs.length → (x3 xs ys zs).foldl upd (x ^^^ y ^^^ z) = xs.foldl upd x ^^^ ys.foldl upd y ^^^ zs.foldl upd z
  | [], [], [], _, _, _, _, _ => rfl
  | a :: xs, b :: ys, c :: zs, x, y, z, h, h' => by
    simp only [x3, List.foldl_cons]
    rw [upd_xor, upd_xor]
    exact fold_x3 xs ys zs _ _ _ (by simpa using h) (by simpa using h')
  | [], _ :: _, _, _, _, _, h, _ => by simp at h
  | [], [], _ :: _, _, _, _, _, h => by simp at h
  | _ :: _, [], _, _, _, _, h, _ => by simp at h
  | _ :: _, _ :: _, [], _, _, _, _, h => by simp at h
theorem crc_x3 (xs ys zs : List UInt8) (h : xs.length = ys.length) (h' : xs.length = zs.length) : crc (x3 xs ys zs) = crc xs ^^^ crc ys ^^^ crc zs := by
  have e : (0xFFFFFFFF#32 : BitVec 32) = 0xFFFFFFFF#32 ^^^ 0xFFFFFFFF#32 ^^^ 0xFFFFFFFF#32 := by decide
  have h1 := fold_x3 xs ys zs 0xFFFFFFFF#32 0xFFFFFFFF#32 0xFFFFFFFF#32 h h'
  rw [← e] at h1
  unfold crc crcW
  rw [h1]
  have e2 : ∀ x y z f : BitVec 32, f ^^^ (x ^^^ y ^^^ z) = f ^^^ x ^^^ (f ^^^ y) ^^^ (f ^^^ z) := fun x y z f => by
    have : f ^^^ x ^^^ (f ^^^ y) ^^^ (f ^^^ z) = (f ^^^ f) ^^^ (f ^^^ (x ^^^ y ^^^ z)) := by ac_rfl
    rw [this, BitVec.xor_self, BitVec.zero_xor]
  exact e2 _ _ _ _

section
variable {P : Program} {ops : Array Oper} {Q : Exit → Act → World → Prop} {S : World → Prop} {t : Nat}
theorem ord_runG {i : Nat} {r : List (Nat × Bool)} {o : Oper} {a : Act} {w : World} (ho : ops.toList[i]? = some o) (hw : Region.wanted o (yielded ops a.tmps) = true)
    (h : ∀ K : Act → World → Prop, (∀ a' w', ((i < t → S w') ∧ wpOrd P ops Q S t r a' w') → K a' w') → o.wp P a w K Q) : wpOrd P ops Q S t ((i, false) :: r) a w := by
  show wpOp P ops Q i _ a w
  have ho' : ops[i]? = some o := by simpa using ho
  unfold wpOp
  simp only [ho']
  rw [if_pos hw]
  exact .inl (h _ fun _ _ h => h)
end
end Go.Proofs.YtmdnlgfngpgfnaaDoor
