/- Things one behind the other; what BoxBlind builds. -/
import Derived.Test.YtnejcciociinmaaBox8
import Derived.Test.YtnejcciociinmaaBox5
namespace Go.Proofs.Ytnejcciociinmaa
open Go.RowKit

theorem ThOk.length {w : World} {F : Nat → Prop} {r : Th} {cs : List Value} (h : ThOk w F r cs) : cs.length = 46 := by
  obtain ⟨a, b, x, y, rfl, _⟩ := h
  simp [thC, bs_length, a, b]
/-- things, one behind the other -/
def ThsAt (w : World) (F : Nat → Prop) : List Th → List Value → Prop
  | [], cs => cs = []
  | r :: rs, cs => ∃ c1 c2, cs = c1 ++ c2 ∧ ThOk w F r c1 ∧ ThsAt w F rs c2
theorem ThsAt.fr {w w' : World} {F M : Nat → Prop} (hf : Fr M w w') (hF : ∀ k, F k → k < w.heap.size ∧ ¬ M k) : ∀ (rs : List Th) (cs : List Value), ThsAt w F rs cs → ThsAt w' F rs cs
  | [], _, h => h
  | _ :: rs, _, ⟨c1, c2, e, h1, h2⟩ => ⟨c1, c2, e, h1.fr hf hF, ThsAt.fr hf hF rs c2 h2⟩
theorem ThsAt.mono {w : World} {F G : Nat → Prop} (hF : ∀ k, F k → G k) : ∀ (rs : List Th) (cs : List Value), ThsAt w F rs cs → ThsAt w G rs cs
  | [], _, h => h
  | _ :: rs, _, ⟨c1, c2, e, h1, h2⟩ => ⟨c1, c2, e, h1.mono hF, ThsAt.mono hF rs c2 h2⟩
theorem ThsAt.append {w : World} {F : Nat → Prop} {r : Th} {c : List Value} (hr : ThOk w F r c) : ∀ (rs : List Th) (cs : List Value), ThsAt w F rs cs → ThsAt w F (rs ++ [r]) (cs ++ c)
  | [], _, h => ⟨c, [], by have h : _ = [] := h; subst h; simp, hr, rfl⟩
  | _ :: rs, _, ⟨c1, c2, e, h1, h2⟩ => ⟨c1, c2 ++ c, by subst e; simp, h1, ThsAt.append hr rs c2 h2⟩
theorem ThsAt.at_ {w : World} {F : Nat → Prop} : ∀ (rs : List Th) (cs : List Value), ThsAt w F rs cs → ∀ (i : Nat) (h : i < rs.length), ∃ c, ThOk w F rs[i] c ∧ ∀ j x, c[j]? = some x → cs[i * 46 + j]? = some x
  | [], _, _, i, hi => by simp at hi
  | r :: rs, _, ⟨c1, c2, e, h1, h2⟩, 0, _ => ⟨c1, h1, fun j x hx => by
      subst e
      have : j < c1.length := (List.getElem?_eq_some_iff.1 hx).1
      rw [Nat.zero_mul, Nat.zero_add, List.getElem?_append_left this]; exact hx⟩
  | r :: rs, _, ⟨c1, c2, e, h1, h2⟩, i + 1, hi => by
      obtain ⟨c, hc, hx⟩ := ThsAt.at_ rs c2 h2 i (by simpa using hi)
      refine ⟨c, hc, fun j x hj => ?_⟩
      subst e
      have := h1.length
      rw [List.getElem?_append_right (by omega), show (i + 1) * 46 + j - c1.length = i * 46 + j by omega]
      exact hx j x hj
theorem ThSl.of_own {w : World} {F : Nat → Prop} {base e : Nat} {A : Option Addr} {n c : Nat} {l : List Th} {cs : List Value} (h : w.ownsRow base e 46 (.slice A n c) n cs) (ht : ThsAt w F l cs) (hl : l.length = n) :
    ThSl w (fun j => F j ∨ (Value.slice A n c).ownBlock = some j) A n c l := by
  refine ⟨hl, ?_, fun i hi => ?_⟩
  · rcases h.2 with ⟨hv, h0⟩ | ⟨g, cap, cur, hv, _, _, hc, _⟩
    · injection hv with _ _ hc; omega
    · injection hv with _ _ hc'; omega
  · obtain ⟨g, cap, hv, _, hg⟩ := h.form (by omega)
    injection hv with hA _ _
    subst hA
    obtain ⟨c1, hok, hx⟩ := ThsAt.at_ l cs ht i hi
    refine ⟨g, 0, c1, rfl, .inr rfl, hok.mono (fun _ h => .inl h), fun j x hj => ?_⟩
    have := hok.length
    have hjl := (List.getElem?_eq_some_iff.1 hj).1
    have : (i + 1) * 46 ≤ n * 46 := Nat.mul_le_mul_right _ (by omega)
    rw [Nat.zero_add, h.cellAt (i * 46 + j) (by omega)]
    exact hx j x hj

theorem build_keyU (w : World) (u : UInt8) : (Instr.build 38 #[(0, bv u)]).run Try.prog w = .ok (.agg (bs (keyOf [u])).toArray) w := by kernel_rfl
theorem build_thing (w : World) (u : UInt8) (A A' : Option Addr) (n n' c c' : Nat) : (Instr.build 50 #[(0, .agg (bs (keyOf [u])).toArray), (2, .slice A n c), (3, .slice A' n' c')]).run Try.prog w =
    .ok (.agg (thC ⟨keyOf [u], nonceOf [], [], []⟩ (.slice A n c) (.slice A' n' c')).toArray) w := by kernel_rfl
theorem xor_byte (a b : UInt8) : bits .xor .u8 (a.toNat : Int) (b.toNat : Int) = ((a ^^^ b).toNat : Int) := by
  show IntKind.u8.wrap ((BitVec.ofInt _ _ ^^^ BitVec.ofInt _ _).toNat : Int) = _
  have e : ∀ u : UInt8, BitVec.ofInt (IntKind.u8.bits) (u.toNat : Int) = u.toBitVec := fun u => by
    apply BitVec.eq_of_toNat_eq
    have := u.toNat_lt
    show (BitVec.ofInt 8 _).toNat = _
    rw [BitVec.toNat_ofInt]
    simp only [Nat.reducePow]
    show _ = u.toNat
    omega
  rw [e, e]
  have h := (a ^^^ b).toNat_lt
  show IntKind.u8.wrap ((a ^^^ b).toNat : Int) = _
  generalize (a ^^^ b).toNat = x at h
  simp [IntKind.wrap, IntKind.signed, IntKind.bits]
  omega
theorem Try.infoTh : (Try.prog.info? 50).map (fun i => (i.zero.map (·.cells.size), i.size, i.bytes)) = some (some 46, 46, 96) := by kernel_rfl

theorem append_th {w : World} {ops : Array Oper} {rest : List Oper} {o : Oper} {a : Act} {Q : Exit → Act → World → Prop} (hgd : o.guard = none) (s x : Operand)
    (ho : o.op = .call { callee := .builtin .append, args := #[s, x], argTypes := #[46, 46] })
    (base : Nat) (A : Option Addr) (n c : Nat) (l : List Value) (hs : a.eval s = .slice A n c) (hown : w.ownsRow base 50 46 (.slice A n c) n l)
    (A2 : Option Addr) (c2 : Nat) (l2 : List Value) (hx : a.eval x = .slice A2 1 c2) (hl : l2.length = 46) (hr : Rd w A2 l2) (h1 : ∀ u ∈ l2, u.oneCell' = true)
    (hb : n ≤ 1000) (hbase : base ≤ w.heap.size)
    (h : ∀ A' c' w', w'.ownsRow base 50 46 (.slice A' (n + 1) c') (n + 1) (l ++ l2) → w.grownBy w' (Value.slice A n c).ownBlock →
      ((Value.slice A' (n + 1) c').ownBlock = (Value.slice A n c).ownBlock ∨ (Value.slice A' (n + 1) c').ownBlock = some w.heap.size) → wpList Try.prog ops Q rest (a.put o.dst (.slice A' (n + 1) c')) w') : wpList Try.prog ops Q (o :: rest) a w := by
  obtain ⟨ir, hir, hzz⟩ := Option.map_eq_some_iff.1 Try.infoTh
  simp only [Prod.mk.injEq] at hzz
  obtain ⟨hzz1, hzz2, hzz3⟩ := hzz
  obtain ⟨zr, hzr, hzs⟩ := Option.map_eq_some_iff.1 hzz1
  exact wpList_plain hgd fun _ hK => wp_append_rd w s x 46 ho base 50 ir zr 46 96 Try.underlying46 hir hzr hzz2 hzz3 hzs (by decide) _ n _ hs hown A2 1 c2 _ hx (by rw [hl]) hr h1 (by simp only [maxLen]; omega) (by omega) hbase
    fun A' c' w' h1 h2 h3 => hK _ _ (h A' c' w' h1 h2 h3)
theorem byte_nat {k : Nat} (h : k < 256) : ((UInt8.ofNat k).toNat : Int) = (k : Int) := by
  rw [UInt8.toNat_ofNat', Nat.mod_eq_of_lt (by simpa using h)]
theorem thC_lit {k : Nat} (h : k < 256) (hv pv : Value) (l : List Value) (he : bv (UInt8.ofNat k) :: (l ++ [hv, pv]) = thC ⟨keyOf [UInt8.ofNat k], nonceOf [], [], []⟩ hv pv) : Value.int .u8 (k : Int) :: (l ++ [hv, pv]) = thC ⟨keyOf [UInt8.ofNat k], nonceOf [], [], []⟩ hv pv := by
  rw [← he, bv, byte_nat h]
end Go.Proofs.Ytnejcciociinmaa
