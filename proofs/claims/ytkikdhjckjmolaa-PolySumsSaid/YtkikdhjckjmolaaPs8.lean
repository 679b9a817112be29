/- The reference's Digits. -/
import Derived.Test.YtkikdhjckjmolaaPs7
import Derived.Test.YtkikdhjckjmolaaPo3
namespace Go.Proofs.Ytkikdhjckjmolaa
open Go.RowKit
attribute [local go_sem] yld yldUpon_value

def dig4 (u : Nat) : List Nat := (List.range 4).map fun k => u / 4 ^ k % 4
def digitsL (l : List UInt8) : List Nat := l.flatMap fun u => dig4 u.toNat
theorem dig4_take (u k : Nat) (hk : k < 4) : (dig4 u).take (k + 1) = (dig4 u).take k ++ [u / 4 ^ k % 4] := by
  rw [List.take_succ_eq_append_getElem (by simp [dig4]; omega)]; simp [dig4]
theorem dig4_len (u : Nat) : (dig4 u).length = 4 := by simp [dig4]
theorem dig4_val (u : Nat) (hu : u < 256) : dgval (dig4 u) = u := by
  simp [dig4, List.range_succ, dgval]; omega
theorem digitsL_len (l : List UInt8) : (digitsL l).length = 4 * l.length := by
  induction l with
  | nil => rfl
  | cons u l ih => simp only [digitsL, List.flatMap_cons, List.length_append, dig4_len, List.length_cons] at ih ⊢; omega
theorem digitsL_val (l : List UInt8) : dgval (digitsL l) = leN l := by
  induction l with
  | nil => rfl
  | cons u l ih =>
    have e : digitsL (u :: l) = dig4 u.toNat ++ digitsL l := by simp [digitsL]
    rw [e, dgval_append, dig4_val _ u.toNat_lt, dig4_len, ih]; rfl
theorem digitsL_d4 (l : List UInt8) : D4 (digitsL l) := by
  intro d hd
  simp only [digitsL, List.mem_flatMap] at hd
  obtain ⟨u, _, hd⟩ := hd
  simp only [dig4, List.mem_map] at hd
  obtain ⟨k, _, rfl⟩ := hd
  exact Nat.mod_lt _ (by decide)
theorem digitsL_take_succ (l : List UInt8) (i : Nat) (hi : i < l.length) : digitsL (l.take (i + 1)) = digitsL (l.take i) ++ dig4 l[i].toNat := by
  unfold digitsL
  rw [List.take_succ_eq_append_getElem hi, List.flatMap_append]
  simp only [List.flatMap_cons, List.flatMap_nil, List.append_nil]
set_option maxRecDepth 100000 in
set_option maxHeartbeats 4000000 in
theorem Digits_any {w : World} {F : Nat → Prop} {A : Option Addr} {n c : Nat} {l : List UInt8} (h : Sl w F A n c l) (hF : ∀ k, F k → k < w.heap.size) (hn : n ≤ 100000) :
    Calls Try.prog 27 #[.slice A n c] w fun e w' => ∃ A' c', e = .returned (.slice A' (4 * n) c') ∧ w'.ownsRow w.heap.size 3 1 (.slice A' (4 * n) c') (4 * n) (dg (digitsL l)) ∧ Below w.heap.size w w' := by
  have H := Lib.hid h; have HL := Lib.hid h.len; have HF := Lib.hid hF; have HN := Lib.hid hn
  clear h hF hn
  go_enter Try.func27, Try.ntmps27
  go_wp2_with fail
  go_loopw [3, 4] (fun out z wr => ∃ (i : Nat) (m : Nat) (A' : Option Addr) (c' : Nat), i ≤ n ∧ z = .int .i64 (i : Nat) ∧ out = .slice A' m c' ∧ Hid (m = 4 * i ∧ wr.ownsRow w.heap.size 3 1 (.slice A' m c') m (dg (digitsL (l.take i))) ∧ Below w.heap.size w wr)) (fun _ z _ => n - (intOf z).toNat)
  case atStart => exact ⟨0, 0, none, 0, Nat.zero_le _, rfl, rfl, Lib.hid ⟨rfl, World.ownsRow_nil _ _ _ _, Below.refl _ _⟩⟩
  case round =>
    obtain ⟨i, m, A1, c1, hi, rfl, rfl, I⟩ := hrel
    have hi0 : (0 : Int) ≤ (i : Int) := by omega
    by_cases hlt : i < n
    · have hiI : (i : Int) < (n : Int) := by omega
      have HI := Lib.hid hlt
      have Hs := H.out.belF I.out.2.2 HF.out
      obtain ⟨ad, rfl, hc⟩ := Hs.rd.at_ (show i < l.length by have := HL.out; omega)
      have hstep : Hid (digitsL (l.take (i + 1)) = digitsL (l.take i) ++ dig4 (l[i]'(by have := HL.out; omega)).toNat) := digitsL_take_succ l i (by have := HL.out; omega)
      have hu := Lib.hid ((l[i]'(by have := HL.out; omega)).toNat_lt)
      generalize (l[i]'(by have := HL.out; omega)).toNat = u at hc hstep hu
      have huI : (u : Int) ≤ 255 := by have := hu.out; omega
      clear Hs hlt
      go_wp2_with fail
      go_loopw [3, 5, 6] (fun out v z w2 => ∃ (k m2 : Nat) (V : Nat) (A' : Option Addr) (c' : Nat), k ≤ 4 ∧ z = .int .i64 (k : Nat) ∧ v = .int .i64 (V : Nat) ∧ out = .slice A' m2 c' ∧ Hid (V = u / 4 ^ k ∧ m2 = 4 * i + k ∧ w2.ownsRow w.heap.size 3 1 (.slice A' m2 c') m2 (dg (digitsL (l.take i) ++ (dig4 u).take k)) ∧ Below w.heap.size w w2)) (fun _ _ z _ => 4 - (intOf z).toNat)
      case atStart => exact ⟨0, m, u, A1, c1, by omega, rfl, rfl, rfl, Lib.hid ⟨by simp, I.out.1, by rw [List.take_zero, List.append_nil]; exact I.out.2.1, I.out.2.2⟩⟩
      case round =>
        clear I
        obtain ⟨k, m2, V, A2, c2, hk, rfl, rfl, rfl, J⟩ := hrel
        have hk0 : (0 : Int) ≤ (k : Int) := by omega
        by_cases hk4 : k < 4
        · have hkI : (k : Int) < 4 := by omega
          have HK := Lib.hid hk4
          have hV0 : (0 : Int) ≤ (V : Int) := by omega
          have hVb : V ≤ 255 := by have := J.out.1; have := hu.out; have h9 := Nat.div_le_self u (4 ^ k); omega
          have hm2b : m2 ≤ 1000000 := by have := J.out.2.1; have := HI.out; have := HN.out; omega
          have step : Hid (∀ (w' : World) (A' : Option Addr) (c' : Nat), w'.ownsRow w.heap.size 3 1 (.slice A' (m2 + 1) c') (m2 + 1) (dg (digitsL (l.take i) ++ (dig4 u).take k) ++ [.int .i64 ((V : Int) % 4)]) → Fr (fun j => w.heap.size ≤ j) wr w' →
              (V / 4 = u / 4 ^ (k + 1) ∧ m2 + 1 = 4 * i + (k + 1) ∧ w'.ownsRow w.heap.size 3 1 (.slice A' (m2 + 1) c') (m2 + 1) (dg (digitsL (l.take i) ++ (dig4 u).take (k + 1))) ∧ Below w.heap.size w w')) := by
            intro w' A' c' ho hf
            refine ⟨by rw [J.out.1, Nat.pow_succ, ← Nat.div_div_eq_div_mul], by have := J.out.2.1; omega, ?_, ((Fr.of_below J.out.2.2.2).trans hf (fun i _ h => h)).to_below (fun i hi e => by omega)⟩
            rw [dig4_take u k HK.out, ← List.append_assoc, dg_append, ← J.out.1, show dg [V % 4] = [.int .i64 ((V : Int) % 4)] by simp [dg]]
            exact ho
          clear hk4
          go_wp2_with (first
            | (at_builtin
               refine append_int (v := .int .i64 ((V : Int) % 4)) (.tmp 22) (.tmp 25) rfl rfl w.heap.size A2 m2 c2 _ rfl wr rfl rfl J.out.2.2.1 rfl hm2b J.out.2.2.2.size ?_
               intro A3 c3 w3 ho hf
               have S3 := Lib.hid (step.out w3 A3 c3 ho hf)
               clear ho hf))
          go_roundw
          case rel => exact ⟨k + 1, m2 + 1, V / 4, A3, c3, by have := HK.out; omega, by go_num, by simp, rfl, S3⟩
          case measure => simp [intOf]; have := HK.out; omega
        · have hkI : ¬ (k : Int) < 4 := by omega
          have hk4' : k = 4 := by omega
          have I2 : Hid (m2 = 4 * (i + 1) ∧ wr.ownsRow w.heap.size 3 1 (.slice A2 m2 c2) m2 (dg (digitsL (l.take (i + 1)))) ∧ Below w.heap.size w wr) := by
            have h1 := J.out.2.2.1
            rw [hk4', show (dig4 u).take 4 = dig4 u from List.take_of_length_le (Nat.le_of_eq (dig4_len u)), ← hstep.out] at h1
            exact ⟨by have := J.out.2.1; omega, h1, J.out.2.2.2⟩
          have hnb : n ≤ 100000 := HN.out
          clear J hk4'
          go_wp2_with fail
          go_roundw
          case rel => exact ⟨i + 1, m2, A2, c2, by have := HI.out; omega, by go_num, rfl, I2⟩
          case measure => simp [intOf]; have := HI.out; omega
    · have hiI : ¬ (i : Int) < (n : Int) := by omega
      have hin : i = n := by omega
      have I2 : Hid (m = 4 * n ∧ wr.ownsRow w.heap.size 3 1 (.slice A1 m c1) m (dg (digitsL l)) ∧ Below w.heap.size w wr) := by
        have h1 := I.out
        rw [hin, List.take_of_length_le (by have := HL.out; omega)] at h1
        exact h1
      clear I hin
      go_wp2_with fail
      go_ret
      obtain ⟨e, h2, h3⟩ := I2.out
      subst e
      exact ⟨A1, c1, rfl, h2, h3⟩
end Go.Proofs.Ytkikdhjckjmolaa
