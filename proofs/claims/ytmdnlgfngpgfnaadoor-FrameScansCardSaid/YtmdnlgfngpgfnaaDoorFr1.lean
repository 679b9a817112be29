/- The sum of a frame. -/
import Derived.Test.YtmdnlgfngpgfnaaDoorMem
namespace Go.Proofs.YtmdnlgfngpgfnaaDoor
open Go.RowKit

theorem own_fr {w w' : World} {base e size n : Nat} {v : Value} {xs : List Value} {M : Nat → Prop} (h : w.ownsRow base e size v n xs) (hf : Fr M w w') (hM : ∀ k, v.ownBlock = some k → ¬ M k) : w'.ownsRow base e size v n xs := by
  refine ⟨h.1, ?_⟩
  rcases h.2 with hn | ⟨g, cap, cur, rfl, hb, hgg, rest⟩
  · exact .inl hn
  · refine .inr ⟨g, cap, cur, rfl, hb, ?_, rest⟩
    rw [hf.block g (Array.getElem?_eq_some_iff.1 hgg).1 (hM g rfl)]
    exact hgg

def tabL : List (BitVec 32) := [0x00000000#32, 0x1db71064#32, 0x3b6e20c8#32, 0x26d930ac#32, 0x76dc4190#32, 0x6b6b51f4#32, 0x4db26158#32, 0x5005713c#32,
  0xedb88320#32, 0xf00f9344#32, 0xd6d6a3e8#32, 0xcb61b38c#32, 0x9b64c2b0#32, 0x86d3d2d4#32, 0xa00ae278#32, 0xbdbdf21c#32]
def tab (i : Nat) : BitVec 32 := tabL.getD i 0#32
/-- four bits go out -/
def st4 (w : BitVec 32) : BitVec 32 := tab (w &&& 15#32).toNat ^^^ (w >>> 4)
def byteW (u : UInt8) : BitVec 32 := BitVec.ofNat 32 u.toNat
def upd (w : BitVec 32) (u : UInt8) : BitVec 32 := st4 (st4 (w ^^^ byteW u))
def crcW (l : List UInt8) : BitVec 32 := l.foldl upd 0xFFFFFFFF#32
def crc (l : List UInt8) : BitVec 32 := 0xFFFFFFFF#32 ^^^ crcW l
/-- a word as a value -/
def wv (w : BitVec 32) : Int := (w.toNat : Int)

def it4 : Nat → BitVec 32 → BitVec 32
  | 0, x => x
  | n + 1, x => st4 (it4 n x)
/-- the table lies where the program laid it -/
def Steps (w : World) : Prop := ∀ i, i < 16 → w.cell? ⟨0, i, none⟩ = some (.int .u32 (wv (tab i)))
theorem Steps.pos {w : World} (h : Steps w) : 0 < w.heap.size := World.block_lt_of_cell? _ _ (h 0 (by decide))
theorem Steps.fr {w w' : World} {M : Nat → Prop} (h : Steps w) (hf : Fr M w w') (h0 : ¬ M 0) : Steps w' := fun i hi => by
  rw [World.cell?_of_block (w := w) (hf.block 0 h.pos h0)]; exact h i hi
theorem Steps.below {w w' : World} {B : Nat} (h : Steps w) (hb : Below B w w') (hB : 0 < B) : Steps w' := fun i hi => by
  rw [World.cell?_of_block (w := w) (hb.block 0 hB)]; exact h i hi

theorem ofInt_wv (w : BitVec 32) : BitVec.ofInt (IntKind.u32.bits) (wv w) = w := by
  apply BitVec.eq_of_toNat_eq
  have := w.isLt
  show (BitVec.ofInt 32 _).toNat = _
  rw [BitVec.toNat_ofInt]
  have h1 : w.toNat < 4294967296 := w.isLt
  have h2 : ((2 ^ 32 : Nat) : Int) = 4294967296 := rfl
  rw [h2]
  show (((w.toNat : Nat) : Int) % 4294967296).toNat = w.toNat
  omega
theorem wrap_wv (w : BitVec 32) : IntKind.u32.wrap (w.toNat : Int) = wv w := by
  have := w.isLt
  simp only [wv, IntKind.wrap, IntKind.signed, IntKind.bits]
  simp
  omega
theorem xor32 (a b : BitVec 32) : bits .xor .u32 (wv a) (wv b) = wv (a ^^^ b) := by
  show IntKind.u32.wrap ((BitVec.ofInt _ _ ^^^ BitVec.ofInt _ _).toNat : Int) = _
  rw [ofInt_wv, ofInt_wv]
  exact wrap_wv _
theorem and32 (a b : BitVec 32) : bits .and .u32 (wv a) (wv b) = wv (a &&& b) := by
  show IntKind.u32.wrap ((BitVec.ofInt _ _ &&& BitVec.ofInt _ _).toNat : Int) = _
  rw [ofInt_wv, ofInt_wv]
  exact wrap_wv _
theorem shr4 (a : BitVec 32) : wv a / (16 : Int) = wv (a >>> 4) := by
  simp only [wv, BitVec.toNat_ushiftRight, Nat.shiftRight_eq_div_pow]
  omega
theorem wv_byte (u : UInt8) : wv (byteW u) = (u.toNat : Int) := by
  have := u.toNat_lt
  simp only [wv, byteW, BitVec.toNat_ofNat]
  omega
theorem crcW_step (l : List UInt8) (k : Nat) (h : k < l.length) : crcW (l.take (k + 1)) = upd (crcW (l.take k)) l[k] := by
  unfold crcW
  rw [List.take_succ_eq_append_getElem h, List.foldl_append]; rfl

set_option maxHeartbeats 1000000 in
theorem Sum_any {F : Nat → Prop} {A : Option Addr} {n c : Nat} {l : List UInt8} {w : World} (hS : Steps w) (h : Sl w F A n c l) (hl : n ≤ 9223372036854775806) :
    Calls Tryd.prog 16 #[.slice A n c] w fun e w' => e = .returned (.int .u32 (wv (crc l))) ∧ w = w' := by
  have hlen := h.len
  have H := Lib.hid h; have HS := Lib.hid hS; have Hlen := Lib.hid hlen
  clear h hS hlen
  go_enter Tryd.func16, Tryd.ntmps16
  go_wp2
  go_loopw [3, 8] (fun v i w' => ∃ k : Nat, k ≤ n ∧ i = .int .i64 (k : Nat) ∧ v = .int .u32 (wv (crcW (l.take k))) ∧ w = w') (fun _ i _ => n - (intOf i).toNat)
  case atStart => exact ⟨0, Nat.zero_le _, rfl, rfl, rfl⟩
  case round =>
    obtain ⟨k, hk, rfl, rfl, rfl⟩ := hrel
    by_cases hlt : k < n
    · have hlt' : k < l.length := by have := Hlen.out; omega
      obtain ⟨ad, rfl, hc⟩ := H.out.rd.at_ hlt'
      have hlI : (k : Int) < n := by omega
      have hkI : (0 : Int) ≤ (k : Int) := by omega
      have hst := Lib.hid (crcW_step l k hlt')
      generalize crcW (l.take k) = x at hst ⊢
      have hxb := wv_byte l[k]
      rw [← hxb] at hc
      have hx0 : bits .xor .u32 (wv x) ((l[k].toNat : Int) % 4294967296) = wv (x ^^^ byteW l[k]) := by
        have := l[k].toNat_lt
        rw [show (l[k].toNat : Int) % 4294967296 = wv (byteW l[k]) by rw [hxb]; omega, xor32]
      go_wp2
      have Hst2 : Hid (it4 2 (x ^^^ byteW l[k]) = crcW (l.take (k + 1))) := by show _ = _; rw [hst.out]; rfl
      clear hx0
      generalize x ^^^ byteW l[k] = x0 at Hst2 ⊢
      go_loopw [3, 16] (fun v j w' => ∃ q : Nat, q ≤ 2 ∧ j = .int .i64 (q : Nat) ∧ v = .int .u32 (wv (it4 q x0)) ∧ w = w') (fun _ j _ => 2 - (intOf j).toNat)
      case atStart => exact ⟨0, Nat.zero_le _, rfl, rfl, rfl⟩
      case round =>
        obtain ⟨q, hq, rfl, rfl, rfl⟩ := hrel
        by_cases hq2 : q < 2
        · have hqI : (q : Int) < 2 := by omega
          have hq1 := Lib.hid (show it4 (q + 1) x0 = st4 (it4 q x0) from rfl)
          generalize it4 q x0 = y at hq1 ⊢
          have hi16 : (y &&& 15#32).toNat < 16 := by
            rw [BitVec.toNat_and]
            exact Nat.lt_of_le_of_lt Nat.and_le_right (by decide)
          have hand : bits .and .u32 (wv y) 15 = (((y &&& 15#32).toNat : Nat) : Int) := and32 y 15#32
          have hct := HS.out _ hi16
          have hiI : (((y &&& 15#32).toNat : Nat) : Int) < 16 := by omega
          have hiI0 : (0 : Int) ≤ (((y &&& 15#32).toNat : Nat) : Int) := by omega
          have Hs4 := Lib.hid (show st4 y = tab (y &&& 15#32).toNat ^^^ (y >>> 4) from rfl)
          generalize (y &&& 15#32).toNat = ix at hi16 hand hct hiI hiI0 Hs4
          go_wp2
          go_roundw
          case rel => exact ⟨q + 1, by omega, by go_num, by rw [hq1.out, Hs4.out, shr4, xor32], trivial⟩
          case measure => simp [intOf]; omega
        · obtain rfl : q = 2 := by omega
          rw [Hst2.out]
          go_wp2
          go_roundw
          case rel => exact ⟨k + 1, by omega, by go_num, rfl, trivial⟩
          case measure => simp [intOf]; omega
    · have hkl : k = l.length := by have := Hlen.out; omega
      have e : l.take k = l := List.take_of_length_le (by omega)
      rw [e]
      have hsg : IntKind.u32.signed = false := rfl
      go_wp2
      go_ret
      exact ⟨ret_int (xor32 0xFFFFFFFF#32 (crcW l)), rfl⟩
end Go.Proofs.YtmdnlgfngpgfnaaDoor
