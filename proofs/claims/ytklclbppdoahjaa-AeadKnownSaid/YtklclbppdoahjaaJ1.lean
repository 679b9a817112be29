/- Lemmas and contracts for the claim's row, one text behind the other: Base, Kit, Kit2, Mem, Opn, Ord, Ord2, Ord3, W32, OpnA, RgF, Ch1, Ch2, Agg, Arr, Kit3, Reg, Byb, Ch3, Ch4, Ch5, Ch6, RgF2, Ch10, Ch11. No condition. -/
import Derived.Test.YtklclbppdoahjaaChecked
import Derived.WalkKit
import Derived.Deep.Draws
import Derived.Deep.QuietTactic
import Derived.BigQuiet
import Derived.Lib.Hide
import Derived.Maps.AppendAt
import Derived.Deep.AppendLies
import Derived.Outline
import Derived.WalkSpells
import Derived.Laws.CopyOwn
import Derived.ChangeSlices
import Derived.OpenShut
import Derived.SizedLaws
import Derived.Deep.Slices
import Derived.OrdersHeld
import Derived.StillTail
import Derived.Deep.MidRow
import Derived.RangeFuncNested
import Derived.RangeFuncBound
import Derived.RangeFuncCalls
import Derived.RangeFuncLeaves
import Derived.Shelf.Abstract
import Derived.Shelf.RegionOpen
import Derived.OwnWalkIn
import Derived.TacticsInMore
import Derived.LoopNIn
import Derived.LoopIn
import Derived.OrdersIn
import Derived.ChangeKeysEq
import Derived.Laws.StructEq
import Derived.Deep.WholeRow
import Derived.OneCell
import Derived.RangeFuncBox
import Derived.Lib.SlBytesConst
import Derived.BigFrameIn
/- Words for byte lists in memory, and small laws on worlds. -/
namespace Go.Proofs.Ytklclbppdoahjaa
set_option maxRecDepth 100000
open Go.RowKit

/-- A byte as a cell. -/
def bv (u : UInt8) : Value := .int .u8 (u.toNat : Int)
/-- A list of bytes as cells. -/
def bs (l : List UInt8) : List Value := l.map bv

/-- From address A on the cells xs lie in w. -/
def Rd (w : World) (A : Option Addr) (xs : List Value) : Prop :=
  ∀ j x, xs[j]? = some x → ∃ ad, A = some ad ∧ w.cell? (ad.add j) = some x

theorem bs_length (l : List UInt8) : (bs l).length = l.length := by simp [bs]
theorem bs_get (l : List UInt8) (j : Nat) (h : j < l.length) : (bs l)[j]? = some (bv l[j]) := by simp [bs, h]
theorem Rd.at_ {w : World} {A : Option Addr} {l : List UInt8} (h : Rd w A (bs l)) {j : Nat} (hj : j < l.length) :
    ∃ ad, A = some ad ∧ w.cell? (ad.add j) = some (.int .u8 (l[j].toNat : Int)) := h j _ (bs_get l j hj)
theorem Rd.of_eq {w w' : World} {A : Option Addr} {xs : List Value} (h : Rd w A xs) (hw : ∀ ad, A = some ad → xs ≠ [] → w'.heap[ad.block]? = w.heap[ad.block]?) : Rd w' A xs := by
  intro j x hx
  have hne : xs ≠ [] := by rintro rfl; simp at hx
  obtain ⟨ad, rfl, hc⟩ := h j x hx
  refine ⟨ad, rfl, ?_⟩
  rw [World.cell?_of_block (w := w) ?_]
  · exact hc
  · have : (ad.add j).block = ad.block := by unfold Addr.add; split <;> rfl
    rw [this]; exact hw ad rfl hne
theorem Try.infoB : (Try.prog.info? 5).map (fun i => (i.zero, i.size, i.bytes)) = some (some (.int .u8 0), 1, 1) := by kernel_rfl

theorem bs_take_succ {l : List UInt8} {k : Nat} (h : k < l.length) : bs (l.take (k+1)) = bs (l.take k) ++ [.int .u8 (l[k].toNat : Int)] := by
  rw [List.take_succ_eq_append_getElem h]; simp only [bs, bv, List.map_append, List.map_cons, List.map_nil]
theorem bs_append (l l' : List UInt8) : bs (l ++ l') = bs l ++ bs l' := by simp [bs]
/-- what is owned reads -/
theorem Rd.of_own {w : World} {base e : Nat} {A : Option Addr} {n c : Nat} {xs : List Value} (h : w.ownsRow base e 1 (.slice A n c) n xs) : Rd w A xs := by
  intro j x hx
  rcases h.2 with ⟨hv, hn⟩ | ⟨g, cap, cur, hv, _⟩
  · have := h.1; subst hn; have : xs = [] := List.eq_nil_of_length_eq_zero (by omega)
    subst this; simp at hx
  · injection hv with hA
    subst hA
    exact ⟨_, rfl, h.cells (g := g) rfl j x hx⟩
theorem addr_add_block (a : Addr) (n : Nat) : (a.add n).block = a.block := by unfold Addr.add; split <;> rfl
theorem addr_add_zero (b o n : Nat) : (⟨b, o, none⟩ : Addr).add n = ⟨b, o + n, none⟩ := by unfold Addr.add; split <;> simp_all
/-- reading is kept below -/
theorem Rd.below {w w' : World} {B : Nat} {A : Option Addr} {xs : List Value} (h : Rd w A xs) (hA : ∀ ad, A = some ad → xs ≠ [] → ad.block < B) (hb : Below B w w') : Rd w' A xs :=
  h.of_eq fun ad he hne => hb.block _ (hA ad he hne)

theorem new_one (w : World) (x : Value) (e : TypeId) : ∀ (j : Nat) (u : Value), [x][j]? = some u → (w.alloc (.cells #[x] e)).cell? ((⟨w.heap.size, 0, none⟩ : Addr).add j) = some u := by
  intro j u hu
  rcases j with _ | j
  · simp at hu; subst hu
    rw [addr_add_zero, World.cell?_alloc_at _ _ _ _ (by simp)]; rfl
  · simp at hu
theorem one_oneCell (k : IntKind) (n : Int) : ∀ u ∈ [Value.int k n], u.oneCell' = true := by
  intro u hu; simp at hu; subst hu; rfl

theorem own_slice {w : World} {base e size n : Nat} {v : Value} {xs : List Value} (h : w.ownsRow base e size v n xs) : ∃ A c, v = .slice A n c := by
  rcases h.2 with ⟨rfl, rfl⟩ | ⟨g, cap, cur, rfl, _⟩
  · exact ⟨_, _, rfl⟩
  · exact ⟨_, _, rfl⟩
theorem drewN_add (w : World) (m n : Nat) : (w.drewN m).drewN n = w.drewN (m + n) := World.drewN_drewN w m n

theorem grown_trans_same {a b c : World} {row : Option Nat} (h : a.grownBy b row) (k : b.grownBy c row) : a.grownBy c row :=
  ⟨k.os.trans h.os, k.tape.trans h.tape, k.output.trans h.output, Nat.le_trans h.size k.size, fun i hi hne => (k.block i (Nat.lt_of_lt_of_le hi h.size) hne).trans (h.block i hi hne)⟩
theorem bs_oneCell (l : List UInt8) : ∀ u ∈ bs l, u.oneCell' = true := by
  intro u hu
  simp only [bs, List.mem_map] at hu
  obtain ⟨b, _, rfl⟩ := hu
  rfl

section
variable {P : Program} (w : World)
theorem run_append_none (base : Nat) (t ty e : TypeId) (i : TypeInfo) (size : Nat) (ht : P.underlying t = some (.slice e)) (hi : P.info? e = some i)
    (v : Value) (n : Nat) (xs : List Value) (hown : w.ownsRow base e size v n xs) (c : Nat) : (Builtin.append_ #[t, t] ty #[v, .slice none 0 c]).run P w = .ok v w := by
  rcases hown.2 with ⟨rfl, rfl⟩ | ⟨g, cap, cur, rfl, _, _, hnc, _⟩
  · simp [Builtin.append_, run_underlying ht, sizeOf, typeInfo, hi, Builtin.lenOf, Builtin.firstCells]
  · simp [Builtin.append_, run_underlying ht, sizeOf, typeInfo, hi, Builtin.lenOf, Builtin.firstCells, hnc, storeCells]
theorem run_append_rd (base : Nat) (t ty e : TypeId) (i : TypeInfo) (z : Value) (size bytes : Nat) (ht : P.underlying t = some (.slice e)) (hi : P.info? e = some i) (hz : i.zero = some z)
    (hsize : i.size = size) (hby : i.bytes = bytes) (hzs : z.cells.size = size) (hsz : 0 < size)
    (v : Value) (n : Nat) (xs : List Value) (hown : w.ownsRow base e size v n xs)
    (A : Option Addr) (m c : Nat) (news : List Value) (hl : news.length = m * size) (hr : Rd w A news) (h1 : ∀ u ∈ news, u.oneCell' = true)
    (h63 : n + m ≤ maxLen) (hbytes : (n + m) * bytes ≤ 140737488355328) (hbase : base ≤ w.heap.size) :
    ∃ v' w', (Builtin.append_ #[t, t] ty #[v, .slice A m c]).run P w = .ok v' w' ∧ w'.ownsRow base e size v' (n + m) (xs ++ news) ∧ w.grownBy w' v.ownBlock ∧
      (v'.ownBlock = v.ownBlock ∨ v'.ownBlock = some w.heap.size) := by
  rcases A with _ | ad
  · have hnil : news = [] := by
      rcases news with _ | ⟨x, r⟩
      · rfl
      · obtain ⟨ad, h, _⟩ := hr 0 x rfl
        cases h
    subst hnil
    have hm : m = 0 := by
      rcases Nat.eq_zero_or_pos m with h | h
      · exact h
      · have := Nat.mul_pos h hsz; simp at hl; omega
    subst hm
    exact ⟨v, w, run_append_none w base t ty e i size ht hi v n xs hown c, by simpa using hown, World.grownBy.refl w _, .inl rfl⟩
  · have hcells : ∀ j u, news[j]? = some u → w.cell? (ad.add j) = some u := by
      intro j u hu
      obtain ⟨ad', h, hc⟩ := hr j u hu
      injection h with h
      subst h
      exact hc
    obtain ⟨v', w', hrun, h2, h3, _, h5⟩ := run_append_own_at (P := P) w base t ty e i z size bytes ht hi hz hsize hby hzs hsz v n xs hown ad m c news hl hcells h1 h63 hbytes hbase
    exact ⟨v', w', hrun, h2, h3, h5⟩
theorem wp_append_rd {o : Oper} {a : Act} {K : Act → World → Prop} {Q : Exit → Act → World → Prop} (s x : Operand) (t : TypeId)
    (ho : o.op = .call { callee := .builtin .append, args := #[s, x], argTypes := #[t, t] })
    (base : Nat) (e : TypeId) (i : TypeInfo) (z : Value) (size bytes : Nat) (ht : P.underlying t = some (.slice e)) (hi : P.info? e = some i) (hz : i.zero = some z)
    (hsize : i.size = size) (hby : i.bytes = bytes) (hzs : z.cells.size = size) (hsz : 0 < size)
    (v : Value) (n : Nat) (xs : List Value) (hs : a.eval s = v) (hown : w.ownsRow base e size v n xs)
    (A : Option Addr) (m c : Nat) (news : List Value) (hx : a.eval x = .slice A m c) (hl : news.length = m * size) (hr : Rd w A news) (h1 : ∀ u ∈ news, u.oneCell' = true)
    (h63 : n + m ≤ maxLen) (hbytes : (n + m) * bytes ≤ 140737488355328) (hbase : base ≤ w.heap.size)
    (h : ∀ A' c' w', w'.ownsRow base e size (.slice A' (n + m) c') (n + m) (xs ++ news) → w.grownBy w' v.ownBlock →
      ((Value.slice A' (n + m) c').ownBlock = v.ownBlock ∨ (Value.slice A' (n + m) c').ownBlock = some w.heap.size) → K (a.put o.dst (.slice A' (n + m) c')) w') : o.wp P a w K Q := by
  obtain ⟨v', w', hrun, h2, h3, h4⟩ := run_append_rd (P := P) w base t o.type e i z size bytes ht hi hz hsize hby hzs hsz v n xs hown A m c news hl hr h1 h63 hbytes hbase
  obtain ⟨A', c', rfl⟩ := own_slice h2
  unfold Oper.wp execOp
  simp only [ho, resolve, invoke, builtin, Sem.run_bind, Sem.run_pure, Result.andThen_ok, List.map_toArray, List.map_cons, List.map_nil, hs, hx, hrun]
  exact h A' c' w' h2 h3 h4
end
/-- append of bytes to bytes of the call's own -/
theorem wp_append_bytes {w : World} {o : Oper} {a : Act} {K : Act → World → Prop} {Q : Exit → Act → World → Prop} (s x : Operand)
    (ho : o.op = .call { callee := .builtin .append, args := #[s, x], argTypes := #[26, 26] })
    (base : Nat) (A : Option Addr) (n c : Nat) (l : List UInt8) (hs : a.eval s = .slice A n c) (hown : w.ownsRow base 5 1 (.slice A n c) n (bs l))
    (A2 : Option Addr) (m c2 : Nat) (l2 : List UInt8) (hx : a.eval x = .slice A2 m c2) (hl : l2.length = m) (hr : Rd w A2 (bs l2))
    (hb : n + m ≤ 140737488355328) (hbase : base ≤ w.heap.size)
    (h : ∀ A' c' w', w'.ownsRow base 5 1 (.slice A' (n + m) c') (n + m) (bs (l ++ l2)) → w.grownBy w' (Value.slice A n c).ownBlock →
      ((Value.slice A' (n + m) c').ownBlock = (Value.slice A n c).ownBlock ∨ (Value.slice A' (n + m) c').ownBlock = some w.heap.size) → K (a.put o.dst (.slice A' (n + m) c')) w') : o.wp Try.prog a w K Q := by
  obtain ⟨i0, hi, hz0, hz1, hz2⟩ := info_parts Try.infoB
  refine wp_append_rd w s x 26 ho base 5 i0 (.int .u8 0) 1 1 Try.underlying26 hi hz0 hz1 hz2 rfl (by decide) _ n _ hs hown A2 m c2 _ hx (by simpa [bs] using hl) hr (bs_oneCell l2) (by simp only [maxLen]; omega) (by omega) hbase ?_
  intro A' c' w' h1 h2 h3
  exact h A' c' w' (by rw [bs_append]; exact h1) h2 h3
theorem append_bytes {w : World} {ops : Array Oper} {rest : List Oper} {o : Oper} {a : Act} {Q : Exit → Act → World → Prop} (hgd : o.guard = none) (s x : Operand)
    (ho : o.op = .call { callee := .builtin .append, args := #[s, x], argTypes := #[26, 26] })
    (base : Nat) (A : Option Addr) (n c : Nat) (l : List UInt8) (hs : a.eval s = .slice A n c) (hown : w.ownsRow base 5 1 (.slice A n c) n (bs l))
    (A2 : Option Addr) (m c2 : Nat) (l2 : List UInt8) (hx : a.eval x = .slice A2 m c2) (hl : l2.length = m) (hr : Rd w A2 (bs l2))
    (hb : n + m ≤ 140737488355328) (hbase : base ≤ w.heap.size)
    (h : ∀ A' c' w', w'.ownsRow base 5 1 (.slice A' (n + m) c') (n + m) (bs (l ++ l2)) → w.grownBy w' (Value.slice A n c).ownBlock →
      ((Value.slice A' (n + m) c').ownBlock = (Value.slice A n c).ownBlock ∨ (Value.slice A' (n + m) c').ownBlock = some w.heap.size) → wpList Try.prog ops Q rest (a.put o.dst (.slice A' (n + m) c')) w') : wpList Try.prog ops Q (o :: rest) a w :=
  wpList_plain hgd fun _ hK => wp_append_bytes s x ho base A n c l hs hown A2 m c2 l2 hx hl hr hb hbase fun A' c' w' h1 h2 h3 => hK _ _ (h A' c' w' h1 h2 h3)
theorem Rd.alloc {w : World} {A : Option Addr} {xs : List Value} (h : Rd w A xs) (hA : ∀ ad, A = some ad → xs ≠ [] → ad.block < w.heap.size) (o : Obj) : Rd (w.alloc o) A xs :=
  h.below hA ((Below.refl _ _).alloc (Nat.le_refl _) o)
/-- a byte laid into a block of its own, to be appended -/
theorem Rd.one (w : World) (u : UInt8) : Rd (w.alloc (.cells #[.int .u8 (u.toNat : Int)] 5)) (some ⟨w.heap.size, 0, none⟩) (bs [u]) := by
  intro j x hx
  exact ⟨_, rfl, new_one w _ _ j x hx⟩

theorem ret_bool {a b : Bool} (h : a = b) : Ending.returned (.bool a) = Ending.returned (.bool b) := by rw [h]
theorem ret_int {k : IntKind} {a b : Int} (h : a = b) : Ending.returned (.int k a) = Ending.returned (.int k b) := by rw [h]
end Go.Proofs.Ytklclbppdoahjaa
namespace Go.Proofs.Ytklclbppdoahjaa
set_option maxRecDepth 100000
open Go.RowKit

theorem take_succ_eq {l l' : List UInt8} {k : Nat} (h : k < l.length) (h' : k < l'.length) (ht : l.take k = l'.take k) (he : l[k] = l'[k]) : l.take (k+1) = l'.take (k+1) := by
  rw [List.take_succ_eq_append_getElem h, List.take_succ_eq_append_getElem h', ht, he]
theorem byte_eq {a b : UInt8} : ((a.toNat : Int) == (b.toNat : Int)) = (a == b) := by
  rw [Bool.eq_iff_iff]; simp only [beq_iff_eq]
  constructor
  · intro h; exact UInt8.toNat_inj.1 (by omega)
  · rintro rfl; rfl

set_option maxHeartbeats 400000 in
theorem SameBytes_any (A A' : Option Addr) (n n' c c' : Nat) (l l' : List UInt8) (w : World) (hn : l.length = n) (hn' : l'.length = n') (h : Rd w A (bs l)) (h' : Rd w A' (bs l')) (hl : l.length ≤ 9223372036854775807) (hl' : l'.length ≤ 9223372036854775807) :
    Calls Try.prog 14 #[.slice A n c, .slice A' n' c'] w fun e w' => e = .returned (.bool (l == l')) ∧ ∃ k, w' = w.drewN k := by
  subst hn hn'
  have H := Lib.hid h; have H' := Lib.hid h'; clear h h'
  by_cases hne : l.length = l'.length
  · have Hne := Lib.hid hne
    go_enter Try.func14, Try.ntmps14
    have hne1 : ((l.length : Int) != (l'.length : Int)) = false := by simp [hne]
    clear hne
    go_wp2
    have Hne1 := Lib.hid hne1; clear hne1
    go_loopw [5] (fun i w' => ∃ k m : Nat, k ≤ l.length ∧ i = .int .i64 k ∧ l.take k = l'.take k ∧ w' = w.drewN m) (fun i _ => l.length - (intOf i).toNat)
    case atStart => exact ⟨0, 0, Nat.zero_le _, rfl, rfl, rfl⟩
    case round =>
      obtain ⟨k, m, hk, rfl, ht, rfl⟩ := hrel
      have Ht := Lib.hid ht; clear ht
      by_cases hlt : k < l.length
      · have hlt' : k < l'.length := by have := Hne.out; omega
        obtain ⟨ad, rfl, hc⟩ := H.out.at_ hlt
        obtain ⟨ad', rfl, hc'⟩ := H'.out.at_ hlt'
        have hlI : (k : Int) < l.length := by omega
        have hlI' : (k : Int) < l'.length := by omega
        have hkI : (0 : Int) ≤ (k : Int) := by omega
        by_cases he : l[k] = l'[k]
        · have Hts := Lib.hid (take_succ_eq hlt hlt' Ht.out he)
          have heq : ((l[k].toNat : Int) == (l'[k].toNat : Int)) = true := by rw [byte_eq]; simpa using he
          clear he
          go_wp2
          go_quiet (fail)
          have Heq := Lib.hid heq; clear heq
          go_wp2
          go_roundw
          case rel => exact ⟨k + 1, m + nq, by omega, by go_num, Hts.out, rfl⟩
          case measure => simp [intOf]; omega
        · have heq : ((l[k].toNat : Int) == (l'[k].toNat : Int)) = false := by rw [byte_eq]; simpa using he
          have Hnot : Hid ((l == l') = false) := by
            show (l == l') = false
            simp only [beq_eq_false_iff_ne, ne_eq]; rintro rfl; exact he rfl
          clear he
          go_wp2
          go_quiet (fail)
          go_wp2
          go_ret
          exact ⟨ret_bool Hnot.out.symm, m + nq, drewN_add _ _ _⟩
      · have hkl : k = l.length := by omega
        have Hyes : Hid ((l == l') = true) := by
          show (l == l') = true
          have h1 := Ht.out
          have := Hne.out
          rw [List.take_of_length_le (by omega), List.take_of_length_le (by omega)] at h1
          simp [h1]
        clear hkl
        go_wp2
        go_ret
        exact ⟨ret_bool Hyes.out.symm, m, rfl⟩
  · have Hnot : Hid ((l == l') = false) := by
      show (l == l') = false
      simp only [beq_eq_false_iff_ne, ne_eq]; rintro rfl; exact hne rfl
    have hne1 : ((l.length : Int) != (l'.length : Int)) = true := by simp; omega
    go_enter Try.func14, Try.ntmps14
    go_wp2
    go_ret
    exact ⟨ret_bool Hnot.out.symm, 0, rfl⟩

set_option maxHeartbeats 400000 in
theorem CopyBytes_any (A : Option Addr) (n c : Nat) (l : List UInt8) (w : World) (hn : l.length = n) (h : Rd w A (bs l)) (hA : ∀ ad, A = some ad → bs l ≠ [] → ad.block < w.heap.size) (hl : l.length ≤ 140737488355328) :
    Calls Try.prog 20 #[.slice A n c] w fun e w' => ∃ A' c', e = .returned (.slice A' n c') ∧ w'.ownsRow w.heap.size 5 1 (.slice A' n c') n (bs l) ∧ Below w.heap.size w w' := by
  subst hn
  have H := Lib.hid h; have HA := Lib.hid hA; clear h hA
  obtain ⟨i0, hi, hz0, hz1, hz2⟩ := info_parts Try.infoB
  go_enter Try.func20, Try.ntmps20
  go_wp2
  go_loopw [3, 4] (fun v i wr => ∃ k A' c', k ≤ l.length ∧ v = .slice A' k c' ∧ i = .int .i64 (k : Nat) ∧ wr.ownsRow w.heap.size 5 1 (.slice A' k c') k (bs (l.take k)) ∧ Below w.heap.size w wr) (fun _ i _ => l.length - (intOf i).toNat)
  case atStart => exact ⟨0, none, 0, Nat.zero_le _, rfl, rfl, World.ownsRow_nil _ _ _ _, Below.refl _ _⟩
  case round =>
    obtain ⟨k, A', c', hk, rfl, rfl, hown, hbw⟩ := hrel
    by_cases hlt : k < l.length
    · obtain ⟨ad, rfl, hc⟩ := (H.out.below HA.out hbw).at_ hlt
      have hlI : (k : Int) < l.length := by omega
      have hkI : (0 : Int) ≤ (k : Int) := by omega
      have hs := hbw.size
      have hts := Lib.hid (bs_take_succ hlt)
      go_wp2_with (at_builtin; refine wpList_append_own _ rfl _ _ 26 rfl w.heap.size 5 i0 (.int .u8 0) 1 1 Try.underlying26 hi hz0 hz1 hz2 rfl (by decide) _ _ _ rfl (hown.alloc _) ⟨wr.heap.size, 0, none⟩ 1 1 [.int .u8 (l[k].toNat : Int)] rfl rfl (new_one _ _ _) (one_oneCell _ _) (by simp only [maxLen]; omega) (by omega) (by simp; omega) ?_; intro v' w1 hown1 hgrow _; obtain ⟨A1, c1, rfl⟩ := own_slice hown1)
      go_roundw
      case rel => exact ⟨k + 1, A1, c1, by omega, rfl, by go_num, by rw [hts.out]; exact hown1, (hbw.alloc hs _).grown hgrow (by simp; omega) (fun g hg => (hown.lt g hg).1)⟩
      case measure => simp [intOf]; omega
    · have hkl : k = l.length := by omega
      subst hkl
      go_wp2
      go_ret
      exact ⟨A', c', rfl, by simpa using hown, hbw⟩
end Go.Proofs.Ytklclbppdoahjaa
namespace Go.Proofs.Ytklclbppdoahjaa
set_option maxRecDepth 100000
open Go.RowKit

theorem wrap_u8 (n : Int) : IntKind.u8.wrap n = n % 256 := by
  simp [IntKind.wrap, IntKind.bits, IntKind.signed]

theorem mark_any (i : Int) (w : World) (h0 : 0 ≤ i) (h1 : i ≤ 1000000000000000) :
    Calls Try.prog 24 #[.int .i64 i] w fun e w' => e = .returned (.int .u8 ((201 + 7 * i) % 256)) ∧ w = w' := by
  go_enter Try.func24, Try.ntmps24
  go_wp2
  go_ret
  exact ⟨rfl, rfl⟩

theorem tmod_pos (v n : Int) (hn : 1 ≤ n) (h : 0 ≤ v.tmod n) : v.tmod n = v % n := by
  rcases Int.lt_or_le v 0 with hv | hv
  · have h1 : v.tmod n = -((-v) % n) := by
      have := Int.tmod_eq_emod_of_nonneg (a := -v) (b := n) (by omega)
      rw [Int.neg_tmod] at this; omega
    have h2 := Int.emod_nonneg (-v) (show n ≠ 0 by omega)
    have h3 : (-v) % n = 0 := by omega
    have h4 : v % n = 0 := Int.emod_eq_zero_of_dvd (by have := Int.dvd_of_emod_eq_zero h3; exact (Int.dvd_neg).1 this)
    rw [h1, h3, h4]; rfl
  · exact Int.tmod_eq_emod_of_nonneg hv
theorem tmod_neg (v n : Int) (hn : 1 ≤ n) (hn2 : n ≤ 9223372036854775807) (h : v.tmod n < 0) : wrap64 (v.tmod n + n) = v % n := by
  have hv : v < 0 := by
    rcases Int.lt_or_le v 0 with hv | hv
    · exact hv
    · rw [Int.tmod_eq_emod_of_nonneg hv] at h; have := Int.emod_nonneg v (show n ≠ 0 by omega); omega
  have h1 : v.tmod n = -((-v) % n) := by
    have := Int.tmod_eq_emod_of_nonneg (a := -v) (b := n) (by omega)
    rw [Int.neg_tmod] at this; omega
  have h2 := Int.emod_nonneg (-v) (show n ≠ 0 by omega)
  have h3 := Int.emod_lt_of_pos (-v) (show 0 < n by omega)
  have h5 := Int.emod_nonneg v (show n ≠ 0 by omega)
  have h6 := Int.emod_lt_of_pos v (show 0 < n by omega)
  have h7 : v % n = n - (-v) % n := by
    have e1 := Int.emod_add_mul_ediv v n
    have e2 := Int.emod_add_mul_ediv (-v) n
    have e3 : (v % n + (-v) % n) % n = 0 := by rw [← Int.add_emod, Int.add_right_neg]; rfl
    have e4 : n ∣ v % n + (-v) % n := Int.dvd_of_emod_eq_zero e3
    obtain ⟨q, hq⟩ := e4
    have hpos : 0 < (-v) % n := by omega
    have hq1 : 0 < q := by
      rcases Int.lt_or_le 0 q with hh | hh
      · exact hh
      · have : n * q ≤ 0 := Int.mul_nonpos_of_nonneg_of_nonpos (by omega) hh
        omega
    have hq2 : q < 2 := by
      rcases Int.lt_or_le q 2 with hh | hh
      · exact hh
      · have : n * 2 ≤ n * q := Int.mul_le_mul_of_nonneg_left hh (by omega)
        omega
    have : q = 1 := by omega
    subst this
    omega
  rw [h7, h1]
  unfold wrap64
  omega

theorem Pick_any (v n : Int) (w : World) (h3 : n ≤ 9223372036854775807) :
    Calls Try.prog 17 #[.int .i64 v, .int .i64 n] w fun e w' => e = .returned (.int .i64 (if n < 1 then 0 else v % n)) ∧ w = w' := by
  by_cases hn : n < 1
  · go_enter Try.func17, Try.ntmps17
    go_wp2
    go_ret
    exact ⟨rfl, rfl⟩
  · go_enter Try.func17, Try.ntmps17
    go_wp2
    all_goals go_ret
    · exact ⟨ret_int (by exact tmod_neg v n (by omega) h3 (by assumption)), rfl⟩
    · exact ⟨ret_int (by exact tmod_pos v n (by omega) (by assumption)), rfl⟩

/-- the five marks -/
def marks : List UInt8 := [201, 208, 215, 222, 229]
theorem bs_take_marks {l : List UInt8} {k : Nat} (h : k < 5) : bs (l ++ marks.take (k+1)) = bs (l ++ marks.take k) ++ [.int .u8 ((201 + 7 * (k : Int)) % 256)] := by
  match k, h with
  | 0, _ => simp [bs, bv, marks]
  | 1, _ => simp [bs, bv, marks]
  | 2, _ => simp [bs, bv, marks]
  | 3, _ => simp [bs, bv, marks]
  | 4, _ => simp [bs, bv, marks]

set_option maxHeartbeats 400000 in
theorem LentBytes_any (A : Option Addr) (n c : Nat) (l : List UInt8) (w : World) (hn : l.length = n) (h : Rd w A (bs l)) (hA : ∀ ad, A = some ad → bs l ≠ [] → ad.block < w.heap.size) (hl : l.length ≤ 140737488355000) :
    Calls Try.prog 10 #[.slice A n c] w fun e w' => ∃ g c', e = .returned (.slice (some ⟨g, 0, none⟩) (n + 5) c') ∧ w'.ownsRow w.heap.size 5 1 (.slice (some ⟨g, 0, none⟩) (n + 5) c') (n + 5) (bs (l ++ marks)) ∧ Below w.heap.size w w' := by
  subst hn
  have H := Lib.hid h; have HA := Lib.hid hA; clear h hA
  obtain ⟨i0, hi, hz0, hz1, hz2⟩ := info_parts Try.infoB
  go_enter Try.func10, Try.ntmps10
  go_wp2_with fail
  refine (CopyBytes_any A _ c l w rfl H.out HA.out (by omega)).mono ?_
  rintro e w1 ⟨A1, c1, rfl, hown1, hb1⟩
  go_wp2_with fail
  go_loopw [3, 4] (fun v i wr => ∃ k A' c', k ≤ 5 ∧ v = .slice A' (l.length + k) c' ∧ i = .int .i64 (k : Nat) ∧ wr.ownsRow w.heap.size 5 1 (.slice A' (l.length + k) c') (l.length + k) (bs (l ++ marks.take k)) ∧ Below w.heap.size w wr) (fun _ i _ => 5 - (intOf i).toNat)
  case atStart => exact ⟨0, A1, c1, by omega, rfl, rfl, by simpa using hown1, hb1⟩
  case round =>
    obtain ⟨k, A', c', hk, rfl, rfl, hown, hbw⟩ := hrel
    have hs := hbw.size
    by_cases hlt : k < 5
    · have hts := Lib.hid (bs_take_marks (l := l) hlt)
      go_wp2_with (first
        | (go_at_call 24; refine (mark_any _ _ (by omega) (by omega)).mono ?_; rintro e w' ⟨rfl, rfl⟩)
        | (at_builtin; refine wpList_append_own _ rfl _ _ 26 rfl w.heap.size 5 i0 (.int .u8 0) 1 1 Try.underlying26 hi hz0 hz1 hz2 rfl (by decide) _ _ _ rfl (hown.alloc _) ⟨wr.heap.size, 0, none⟩ 1 1 [.int .u8 ((201 + 7 * (k : Int)) % 256)] rfl rfl (new_one _ _ _) (one_oneCell _ _) (by simp only [maxLen]; omega) (by omega) (by simp; omega) ?_; intro v' w1 hown1 hgrow _; obtain ⟨A1, c1, rfl⟩ := own_slice hown1))
      go_roundw
      case rel => exact ⟨k + 1, A1, c1, by omega, by rw [Nat.add_assoc], by go_num, by rw [hts.out]; exact hown1, (hbw.alloc hs _).grown hgrow (by simp; omega) (fun g hg => (hown.lt g hg).1)⟩
      case measure => simp [intOf]; omega
    · have hkl : k = 5 := by omega
      subst hkl
      obtain ⟨g, cap, hv, _, _⟩ := hown.form (by omega)
      injection hv with hA1 _ hc1
      subst hA1 hc1
      go_wp2
      go_ret
      exact ⟨g, c', rfl, hown, hbw⟩

set_option maxHeartbeats 400000 in
/-- writes over a list of its own -/
theorem SpoilBytes_any (base : Nat) (A : Option Addr) (n c m : Nat) (xs : List Value) (w : World) (h : w.ownsRow base 5 1 (.slice A m c) m xs) (hm : n ≤ m) (hl : m ≤ 140737488355328) :
    Calls Try.prog 15 #[.slice A n c] w fun e w' => e = .returned (.tuple #[]) ∧ w.grownBy w' (Value.ownBlock (.slice A m c)) := by
  have H := Lib.hid h; clear h
  go_enter Try.func15, Try.ntmps15
  go_wp2
  go_loopw [2] (fun i wr => ∃ k : Nat, k ≤ n ∧ i = .int .i64 (k : Nat) ∧ (∃ ys, wr.ownsRow base 5 1 (.slice A m c) m ys) ∧ w.grownBy wr (Value.ownBlock (.slice A m c))) (fun i _ => n - (intOf i).toNat)
  case atStart => exact ⟨0, by omega, rfl, ⟨_, H.out⟩, World.grownBy.refl _ _⟩
  case round =>
    obtain ⟨k, hk, rfl, ⟨ys, hown⟩, hg⟩ := hrel
    by_cases hlt : k < n
    · obtain ⟨g, cap, hv, _, _⟩ := hown.form (by omega)
      injection hv with hA1 _ hc1
      subst hA1 hc1
      have hkI : (0 : Int) ≤ (k : Int) := by omega
      have hknI : (k : Int) < (n : Int) := by omega
      have hyl : k < ys.length := by have := hown.1; omega
      have hcell : wr.cell? ⟨g, k, none⟩ = some ys[k] := by rw [hown.cellAt k (by omega)]; exact List.getElem?_eq_getElem hyl
      have hfz := hown.frozenAt k
      go_wp2_with (go_at_call 24; refine (mark_any _ _ (by omega) (by omega)).mono ?_; rintro e w' ⟨rfl, rfl⟩)
      obtain ⟨s1, s2⟩ := hown.stored k (.int .u8 ((201 + 7 * ((k : Int) + 7)) % 256))
      go_roundw
      case rel => exact ⟨k + 1, by omega, by go_num, ⟨_, s1⟩, grown_trans_same hg s2⟩
      case measure => simp [intOf]; omega
    · go_wp2
      go_end0
      exact ⟨rfl, hg⟩

theorem Rd.prefix_ {w : World} {A : Option Addr} {xs ys : List Value} (h : Rd w A (xs ++ ys)) : Rd w A xs := by
  intro j x hx
  have : j < xs.length := (List.getElem?_eq_some_iff.1 hx).1
  exact h j x (by rw [List.getElem?_append_left this]; exact hx)
theorem Rd.drop_ {w : World} {b o : Nat} {xs ys : List Value} (h : Rd w (some ⟨b, o, none⟩) (xs ++ ys)) : Rd w (some ⟨b, o + xs.length, none⟩) ys := by
  intro j x hx
  obtain ⟨ad, e, hc⟩ := h (xs.length + j) x (by rw [List.getElem?_append_right (by omega)]; simpa using hx)
  injection e with e; subst e
  refine ⟨_, rfl, ?_⟩
  rw [addr_add_zero] at hc ⊢
  rw [Nat.add_assoc]; exact hc
theorem Rd.drewN {w : World} {A : Option Addr} {xs : List Value} (h : Rd w A xs) (n : Nat) : Rd (w.drewN n) A xs := h
theorem below_drewN {B : Nat} {a w : World} (h : Below B a w) (n : Nat) : Below B a (w.drewN n) := ⟨h.os, h.tape, h.output, h.size, h.block⟩

set_option maxHeartbeats 800000 in
/-- what was lent is as it was -/
theorem KeptBytes_any (g n m cc : Nat) (A : Option Addr) (c : Nat) (l : List UInt8) (w : World) (hn : l.length = n) (hm : m = n + 5) (ha : Rd w (some ⟨g, 0, none⟩) (bs (l ++ marks))) (hg : g < w.heap.size) (h : Rd w A (bs l)) (hA : ∀ ad, A = some ad → bs l ≠ [] → ad.block < w.heap.size) (hl : l.length ≤ 140737488355000) (hcc : l.length + 5 ≤ cc) :
    Calls Try.prog 16 #[.slice (some ⟨g, 0, none⟩) m cc, .slice A n c] w fun e w' => e = .returned (.bool true) ∧ Below w.heap.size w w' := by
  subst hn hm
  have Ha := Lib.hid ha; have H := Lib.hid h; have HA := Lib.hid hA; clear ha h hA
  obtain ⟨i0, hi, hz0, hz1, hz2⟩ := info_parts Try.infoB
  have hne : (((l.length : Int) + 5) != ((l.length : Int) + 5)) = false := by simp
  go_enter Try.func16, Try.ntmps16
  go_wp2_with fail
  refine (SameBytes_any _ _ _ _ _ _ l l w rfl rfl (Rd.prefix_ (by rw [← bs_append]; exact Ha.out)) H.out (by omega) (by omega)).mono ?_
  rintro e w1 ⟨he, k1, rfl⟩
  rw [show (l == l) = true by simp] at he
  subst he
  go_wp2_with fail
  have hs0 : (w.drewN k1).heap.size = w.heap.size := rfl
  go_loopw [5, 6] (fun v i wr => ∃ k A' c', k ≤ 5 ∧ v = .slice A' k c' ∧ i = .int .i64 (k : Nat) ∧ wr.ownsRow w.heap.size 5 1 (.slice A' k c') k (bs (marks.take k)) ∧ Below w.heap.size w wr) (fun _ i _ => 5 - (intOf i).toNat)
  case atStart => exact ⟨0, none, 0, by omega, rfl, rfl, World.ownsRow_nil _ _ _ _, below_drewN (Below.refl _ _) _⟩
  case round =>
    obtain ⟨k, A', c', hk, rfl, rfl, hown, hbw⟩ := hrel
    have hs := hbw.size
    by_cases hlt : k < 5
    · have hts := Lib.hid (bs_take_marks (l := []) hlt)
      go_wp2_with (first
        | (go_at_call 24; refine (mark_any _ _ (by omega) (by omega)).mono ?_; rintro e w' ⟨rfl, rfl⟩)
        | (at_builtin; refine wpList_append_own _ rfl _ _ 26 rfl w.heap.size 5 i0 (.int .u8 0) 1 1 Try.underlying26 hi hz0 hz1 hz2 rfl (by decide) _ _ _ rfl (hown.alloc _) ⟨wr.heap.size, 0, none⟩ 1 1 [.int .u8 ((201 + 7 * (k : Int)) % 256)] rfl rfl (new_one _ _ _) (one_oneCell _ _) (by simp only [maxLen]; omega) (by omega) (by simp; omega) ?_; intro v' w1 hown1 hgrow _; obtain ⟨A1, c1, rfl⟩ := own_slice hown1))
      go_roundw
      case rel => exact ⟨k + 1, A1, c1, by omega, rfl, by go_num, by have := hts.out; simp only [List.nil_append] at this; rw [this]; exact hown1, (hbw.alloc hs _).grown hgrow (by simp; omega) (fun g hg => (hown.lt g hg).1)⟩
      case measure => simp [intOf]; omega
    · have hkl : k = 5 := by omega
      subst hkl
      have hd := Lib.hid (Rd.drop_ (w := w) (b := g) (o := 0) (xs := bs l) (ys := bs marks) (by rw [← bs_append]; exact Ha.out))
      go_wp2_with fail
      refine (SameBytes_any _ _ 5 5 _ _ marks marks wr rfl rfl (Rd.below (B := w.heap.size) (w := w) (by have := hd.out; rw [bs_length, Nat.zero_add] at this; exact this) (by rintro ad ⟨⟩ _; exact hg) hbw) (Rd.of_own hown) (by decide) (by decide)).mono ?_
      rintro e w2 ⟨he, k2, rfl⟩
      rw [show (marks == marks) = true by simp] at he
      subst he
      go_wp2
      go_ret
      exact ⟨rfl, below_drewN hbw _⟩

end Go.Proofs.Ytklclbppdoahjaa
/- Frames and byte slices with their blocks. -/
namespace Go.Proofs.Ytklclbppdoahjaa
set_option maxRecDepth 100000
open Go.RowKit

/-- w' is w but for the blocks of M, and new ones -/
structure Fr (M : Nat → Prop) (w w' : World) : Prop where
  os : w'.os = w.os
  tape : w'.tape = w.tape
  output : w'.output = w.output
  size : w.heap.size ≤ w'.heap.size
  block : ∀ k, k < w.heap.size → ¬ M k → w'.heap[k]? = w.heap[k]?

abbrev NoB : Nat → Prop := fun _ => False

theorem Fr.refl (M : Nat → Prop) (w : World) : Fr M w w := ⟨rfl, rfl, rfl, Nat.le_refl _, fun _ _ _ => rfl⟩
theorem Fr.trans {M N : Nat → Prop} {a b c : World} (h : Fr M a b) (k : Fr N b c) (hN : ∀ i, i < a.heap.size → N i → M i) : Fr M a c :=
  ⟨k.os.trans h.os, k.tape.trans h.tape, k.output.trans h.output, Nat.le_trans h.size k.size,
   fun i hi hm => (k.block i (Nat.lt_of_lt_of_le hi h.size) (fun e => hm (hN i hi e))).trans (h.block i hi hm)⟩
theorem Fr.mono {M N : Nat → Prop} {a b : World} (h : Fr M a b) (hM : ∀ i, i < a.heap.size → M i → N i) : Fr N a b :=
  ⟨h.os, h.tape, h.output, h.size, fun i hi hn => h.block i hi (fun e => hn (hM i hi e))⟩
theorem Fr.of_below {M : Nat → Prop} {a b : World} (h : Below a.heap.size a b) : Fr M a b := ⟨h.os, h.tape, h.output, h.size, fun i hi _ => h.block i hi⟩
theorem Fr.of_grown {a b : World} {row : Option Nat} (h : a.grownBy b row) : Fr (fun k => some k = row) a b := ⟨h.os, h.tape, h.output, h.size, h.block⟩
theorem Fr.to_below {M : Nat → Prop} {a b : World} (h : Fr M a b) (hM : ∀ i, i < a.heap.size → ¬ M i) : Below a.heap.size a b := ⟨h.os, h.tape, h.output, h.size, fun i hi => h.block i hi (hM i hi)⟩
theorem Fr.drewN {M : Nat → Prop} {a w : World} (h : Fr M a w) (n : Nat) : Fr M a (w.drewN n) := ⟨h.os, h.tape, h.output, h.size, h.block⟩
theorem Fr.drew {M : Nat → Prop} {a w : World} (h : Fr M a w) : Fr M a w.drew := ⟨h.os, h.tape, h.output, h.size, h.block⟩
theorem Fr.alloc {M : Nat → Prop} {a w : World} (h : Fr M a w) (o : Obj) : Fr M a (w.alloc o) :=
  h.trans (N := NoB) (Fr.of_below ((Below.refl _ _).alloc (Nat.le_refl _) o)) (fun _ _ e => e.elim)
theorem Fr.setCell {M : Nat → Prop} {a w : World} (h : Fr M a w) {p : Addr} (hp : M p.block ∨ a.heap.size ≤ p.block) (u : Value) : Fr M a (w.setCell p u) :=
  ⟨h.os, h.tape, h.output, by simpa [World.setCell] using h.size, fun i hi hn => (Below.heap_setCell w p u i (by
    rintro rfl
    rcases hp with hp | hp
    · exact hn hp
    · omega)).trans (h.block i hi hn)⟩
theorem Fr.trans_below {M : Nat → Prop} {a b c : World} (h : Fr M a b) (k : Below b.heap.size b c) : Fr M a c :=
  h.trans (N := NoB) (Fr.of_below k) (fun _ _ e => e.elim)

/-- a slice of bytes that reads as l; its block is one of F -/
structure Sl (w : World) (F : Nat → Prop) (A : Option Addr) (n c : Nat) (l : List UInt8) : Prop where
  len : l.length = n
  cap : n ≤ c
  nil : A = none → c = 0
  foot : ∀ ad, A = some ad → bs l ≠ [] → F ad.block
  rd : Rd w A (bs l)

theorem Sl.fr {w w' : World} {F M : Nat → Prop} {A : Option Addr} {n c : Nat} {l : List UInt8} (h : Sl w F A n c l) (hf : Fr M w w') (hF : ∀ k, F k → k < w.heap.size ∧ ¬ M k) : Sl w' F A n c l :=
  ⟨h.len, h.cap, h.nil, h.foot, h.rd.of_eq fun ad he hne => hf.block _ (hF _ (h.foot ad he hne)).1 (hF _ (h.foot ad he hne)).2⟩
theorem Sl.mono {w : World} {F G : Nat → Prop} {A : Option Addr} {n c : Nat} {l : List UInt8} (h : Sl w F A n c l) (hF : ∀ k, F k → G k) : Sl w G A n c l :=
  ⟨h.len, h.cap, h.nil, fun ad he hne => hF _ (h.foot ad he hne), h.rd⟩
theorem Sl.nil_ (w : World) (F : Nat → Prop) : Sl w F none 0 0 [] := ⟨rfl, Nat.le_refl _, fun _ => rfl, (fun _ h => by cases h), (fun j x hx => by simp [bs] at hx)⟩
theorem Sl.zero {w : World} {F : Nat → Prop} {A : Option Addr} {n c : Nat} {l : List UInt8} (h : Sl w F A n c l) : A = none → n = 0 ∧ c = 0 := fun e => by
  have := h.nil e; have := h.cap; omega
/-- what is owned, as a slice of its own block -/
theorem Sl.of_own {w : World} {base e : Nat} {A : Option Addr} {n c : Nat} {l : List UInt8} (h : w.ownsRow base e 1 (.slice A n c) n (bs l)) :
    Sl w (fun k => base ≤ k ∧ k < w.heap.size ∧ (Value.slice A n c).ownBlock = some k) A n c l := by
  have hl : l.length = n := by have := h.1; rw [bs_length] at this; omega
  refine ⟨hl, ?_, ?_, ?_, Rd.of_own h⟩
  · rcases h.2 with ⟨hv, h0⟩ | ⟨g, cap, cur, hv, _, _, hc, _⟩
    · injection hv with _ _ hc; omega
    · injection hv with _ _ hc'; omega
  · intro hA
    rcases h.2 with ⟨hv, h0⟩ | ⟨g, cap, cur, hv, _⟩
    · injection hv with _ _ hc
    · injection hv with hA'; rw [hA] at hA'; cases hA'
  · intro ad hA _
    subst hA
    have := h.lt ad.block rfl
    exact ⟨this.1, this.2, rfl⟩
theorem Sl.take_ {w : World} {F : Nat → Prop} {A : Option Addr} {n c m : Nat} {l l' : List UInt8} (h : Sl w F A n c (l ++ l')) (hm : l.length = m) : Sl w F A m c l := by
  have := h.len; rw [List.length_append] at this
  exact ⟨hm, by have := h.cap; omega, h.nil, fun ad he hne => h.foot ad he (by rw [bs_append]; simp [hne]), Rd.prefix_ (by rw [← bs_append]; exact h.rd)⟩
theorem addr_add_add (a : Addr) (i j : Nat) : (a.add i).add j = a.add (i + j) := by
  unfold Addr.add
  by_cases hi : i = 0 <;> by_cases hj : j = 0 <;> simp [hi, hj, Nat.add_assoc]
theorem Sl.drop_ {w : World} {F : Nat → Prop} {A A' : Option Addr} {n c m : Nat} {l : List UInt8} (h : Sl w F A n c l) (hm : m ≤ n) (hA : (A' = A ∧ c = m) ∨ A' = A.map (·.add m)) : Sl w F A' (n - m) (c - m) (l.drop m) := by
  have h1 := h.len
  have h2 := h.cap
  rcases hA with ⟨rfl, hc⟩ | rfl
  · have : l.drop m = [] := List.drop_of_length_le (by omega)
    rw [this]
    exact ⟨by simp; omega, by omega, fun _ => by omega, fun _ _ hne => absurd rfl hne, fun j x hx => by simp [bs] at hx⟩
  · refine ⟨by rw [List.length_drop]; omega, by omega, fun e => ?_, fun ad he hne => ?_, fun j x hx => ?_⟩
    · rcases A with _ | ad
      · have := h.nil rfl; omega
      · cases e
    · rcases A with _ | ad'
      · cases he
      · injection he with he; subst he
        rw [addr_add_block]; exact h.foot ad' rfl (fun e => hne (by simp only [bs, List.map_eq_nil_iff] at e; subst e; simp [bs]))
    · have hx' : (bs l)[m + j]? = some x := by
        rw [← hx]; simp [bs, List.getElem?_drop]
      obtain ⟨ad, rfl, hc⟩ := h.rd (m + j) x hx'
      exact ⟨_, rfl, by rw [addr_add_add]; exact hc⟩
theorem Sl.lt {w : World} {F : Nat → Prop} {A : Option Addr} {n c : Nat} {l : List UInt8} (h : Sl w F A n c l) (hF : ∀ k, F k → k < w.heap.size) : ∀ ad, A = some ad → bs l ≠ [] → ad.block < w.heap.size :=
  fun ad he hne => hF _ (h.foot ad he hne)

/-- all blocks that there are -/
abbrev Old (w : World) : Nat → Prop := fun k => k < w.heap.size

/-! The kit's contracts again, over Sl. -/
theorem SameBytes_sl {F G : Nat → Prop} {A A' : Option Addr} {n n' c c' : Nat} {l l' : List UInt8} {w : World} (h : Sl w F A n c l) (h' : Sl w G A' n' c' l') (hl : n ≤ 9223372036854775807) (hl' : n' ≤ 9223372036854775807) :
    Calls Try.prog 14 #[.slice A n c, .slice A' n' c'] w fun e w' => e = .returned (.bool (l == l')) ∧ ∃ k, w' = w.drewN k :=
  SameBytes_any A A' n n' c c' l l' w h.len h'.len h.rd h'.rd (by have := h.len; omega) (by have := h'.len; omega)
theorem CopyBytes_sl {F : Nat → Prop} {A : Option Addr} {n c : Nat} {l : List UInt8} {w : World} (h : Sl w F A n c l) (hF : ∀ k, F k → k < w.heap.size) (hl : n ≤ 140737488355328) :
    Calls Try.prog 20 #[.slice A n c] w fun e w' => ∃ A' c', e = .returned (.slice A' n c') ∧ w'.ownsRow w.heap.size 5 1 (.slice A' n c') n (bs l) ∧ Below w.heap.size w w' :=
  CopyBytes_any A n c l w h.len h.rd (h.lt hF) (by have := h.len; omega)
theorem LentBytes_sl {F : Nat → Prop} {A : Option Addr} {n c : Nat} {l : List UInt8} {w : World} (h : Sl w F A n c l) (hF : ∀ k, F k → k < w.heap.size) (hl : n ≤ 140737488355000) :
    Calls Try.prog 10 #[.slice A n c] w fun e w' => ∃ g c', e = .returned (.slice (some ⟨g, 0, none⟩) (n + 5) c') ∧ w'.ownsRow w.heap.size 5 1 (.slice (some ⟨g, 0, none⟩) (n + 5) c') (n + 5) (bs (l ++ marks)) ∧ Below w.heap.size w w' :=
  LentBytes_any A n c l w h.len h.rd (h.lt hF) (by have := h.len; omega)
theorem KeptBytes_sl {F G : Nat → Prop} {g m cc n c : Nat} {A : Option Addr} {l : List UInt8} {w : World} (ha : Sl w G (some ⟨g, 0, none⟩) m cc (l ++ marks)) (hG : ∀ k, G k → k < w.heap.size) (h : Sl w F A n c l) (hF : ∀ k, F k → k < w.heap.size) (hl : n ≤ 140737488355000) :
    Calls Try.prog 16 #[.slice (some ⟨g, 0, none⟩) m cc, .slice A n c] w fun e w' => e = .returned (.bool true) ∧ Below w.heap.size w w' :=
  KeptBytes_any g n m cc A c l w h.len (by have := ha.len; have := h.len; simp [marks] at *; omega) ha.rd (hG _ (ha.foot _ rfl (by simp [bs, marks]))) h.rd (h.lt hF) (by have := h.len; omega) (by have := ha.cap; have := ha.len; simp [marks] at *; omega)

theorem foldl_push (l : List UInt8) : ∀ s : ByteArray, (l.map (fun u : UInt8 => (u.toNat : Int))).foldl (fun r n => r.push (UInt8.ofNat n.toNat)) s = ⟨s.data ++ l.toArray⟩ := by
  induction l with
  | nil => intro s; simp
  | cons u l ih =>
    intro s
    simp only [List.map_cons, List.foldl_cons]
    rw [ih]
    congr 1
    apply Array.ext'
    simp [ByteArray.push]
theorem run_string_of {P : Program} (w : World) (F : Nat → Prop) (src dst e : TypeId) (A : Option Addr) (n c : Nat) (l : List UInt8) (h : Sl w F A n c l)
    (hs : P.underlying src = some (.slice e)) (he : P.underlying e = some (.int .u8)) (hd : P.underlying dst = some .string) :
    (convert src dst (.slice A n c)).run P w = .ok (.string ⟨l.toArray⟩) w := by
  rw [run_convert_bytes_string w src dst e A n c hs he hd]
  rcases A with _ | ad
  · have h0 := h.zero rfl
    have hl : l = [] := List.eq_nil_of_length_eq_zero (by have := h.len; omega)
    subst hl
    simp [Conv.bytesToString]; rfl
  · have hlc : (loadCells ad n).run P w = .ok (bs l).toArray w := by
      have := run_loadCells_list (P := P) w ad (bs l) (fun j v hv => by obtain ⟨ad', e1, hc⟩ := h.rd j v hv; injection e1 with e1; subst e1; exact hc)
      rw [bs_length, h.len] at this
      exact this
    have hb : bs l = (l.map (fun u : UInt8 => (u.toNat : Int))).map (Value.int .u8) := by simp [bs, bv, Function.comp_def]
    rw [hb] at hlc
    rw [run_bytesToString w ad n c _ hlc, foldl_push]
    simp
/-- copy of bytes into bytes of the call's own -/
theorem run_copy_bytes {w : World} (ty : TypeId) (base g off dl dc N C : Nat) (L : List UInt8) (hown : w.ownsRow base 5 1 (.slice (some ⟨g, 0, none⟩) N C) N (bs L))
    (hfit : off + dl ≤ N) {F : Nat → Prop} {A : Option Addr} {sn sc : Nat} {l : List UInt8} (hs : Sl w F A sn sc l) :
    ∃ w', (Builtin.copy_ #[26, 26] ty #[.slice (some ⟨g, off, none⟩) dl dc, .slice A sn sc]).run Try.prog w = .ok (.int .i64 (min sn dl : Nat)) w' ∧
      w'.ownsRow base 5 1 (.slice (some ⟨g, 0, none⟩) N C) N (bs (L.take off ++ (l.take dl ++ L.drop (off + min sn dl)))) ∧ w.grownBy w' (some g) := by
  have hL : L.length = N := by have := hown.1; rw [bs_length] at this; omega
  obtain ⟨i0, hi, hz0, hz1, hz2⟩ := info_parts Try.infoB
  have hsz : (Try.prog.info? 5).map (·.size) = some 1 := by rw [hi]; simp [hz1]
  have hlen := hs.len
  by_cases h0 : min sn dl = 0
  · refine ⟨w, ?_, ?_, World.grownBy.refl _ _⟩
    · have := run_copy_none (P := Try.prog) w 26 26 ty 5 (some ⟨g, off, none⟩) A dl dc sn sc Try.underlying26 hsz (by simpa [Nat.min_def] using h0)
      rw [this, h0]; rfl
    · have e : l.take dl = [] := by
        rcases Nat.eq_zero_or_pos dl with h | h
        · simp [h]
        · have : sn = 0 := by omega
          have : l = [] := List.eq_nil_of_length_eq_zero (by omega)
          simp [this]
      rw [e, h0]; simpa using hown
  · have hA : A ≠ none := fun e => by have := hs.zero e; omega
    obtain ⟨ad, rfl⟩ := Option.ne_none_iff_exists'.1 hA
    rcases hown.2 with ⟨hv, _⟩ | ⟨g', cap, cur, hv, hb, hg, hnc, hcm, hcs, htake⟩
    · cases hv
    · injection hv with e1 _ e2
      injection e1 with e1
      injection e1 with e1
      subst e1 e2
      have htl : (l.take dl).length = min sn dl := by rw [List.length_take]; omega
      have hcells : ∀ j v, (bs (l.take dl))[j]? = some v → w.cell? (ad.add j) = some v := by
        intro j v hv
        have : (bs l)[j]? = some v := by
          simp only [bs, List.map_take] at hv ⊢
          rw [List.getElem?_take] at hv
          split at hv
          · exact hv
          · cases hv
        obtain ⟨ad', e3, hc⟩ := hs.rd j v this
        injection e3 with e3; subst e3; exact hc
      have hrun := run_copy_row (P := Try.prog) w 26 26 ty 5 g off dl dc ad sn sc cur 5 (bs (l.take dl)) Try.underlying26 hsz hg
        (by rw [bs_length, htl]) hcells (by rw [bs_length, htl, hcs]; omega) (bs_oneCell _)
      rw [bs_length, htl] at hrun
      refine ⟨_, hrun, ⟨?_, .inr ⟨g, C, _, rfl, hb, setRow_heap w g cur _ _ _ hg, hnc, hcm, ?_, ?_⟩⟩, ⟨rfl, rfl, rfl, by simp, fun k _ hk => setRow_other w g k _ (fun e => hk (by rw [e]))⟩⟩
      · rw [bs_length]; simp only [List.length_append, List.length_take, List.length_drop]; omega
      · simp only [List.size_toArray, List.length_append, List.length_take, List.length_drop, Array.length_toList, bs_length]; omega
      · have hcl : cur.toList.length = C := by rw [Array.length_toList, hcs]; omega
        have e5 : cur.toList.take off = bs (L.take off) := by
          have : (cur.toList.take (N * 1)).take off = (bs L).take off := by rw [htake]
          rw [List.take_take, show min off (N * 1) = off by omega] at this
          rw [this]; simp [bs]
        rw [e5]
        have e6 : (cur.toList.drop (off + min sn dl)).take (N - (off + min sn dl)) = bs (L.drop (off + min sn dl)) := by
          have : (cur.toList.take (N * 1)).drop (off + min sn dl) = (bs L).drop (off + min sn dl) := by rw [htake]
          rw [List.drop_take, show N * 1 - (off + min sn dl) = N - (off + min sn dl) by omega] at this
          rw [this]; simp [bs]
        have l1 : (List.take off L).length = off := by rw [List.length_take]; omega
        rw [List.take_append, List.take_append, List.length_append, bs_length, bs_length, htl, l1]
        rw [List.take_of_length_le (l := bs (List.take off L)) (by rw [bs_length, l1]; omega), List.take_of_length_le (l := bs (List.take dl l)) (by rw [bs_length, htl]; omega)]
        rw [show N * 1 - (off + min sn dl) = N - (off + min sn dl) by omega, e6, bs_append, bs_append, List.append_assoc]
theorem copy_bytes {w : World} {ops : Array Oper} {rest : List Oper} {o : Oper} {a : Act} {Q : Exit → Act → World → Prop} (hgd : o.guard = none) (d s : Operand)
    (ho : o.op = .call { callee := .builtin .copy, args := #[d, s], argTypes := #[26, 26] })
    (base g off dl dc N C : Nat) (L : List UInt8) (hd : a.eval d = .slice (some ⟨g, off, none⟩) dl dc) (hown : w.ownsRow base 5 1 (.slice (some ⟨g, 0, none⟩) N C) N (bs L))
    (hfit : off + dl ≤ N) {F : Nat → Prop} {A : Option Addr} {sn sc : Nat} {l : List UInt8} (hsv : a.eval s = .slice A sn sc) (hs : Sl w F A sn sc l)
    (h : ∀ w', w'.ownsRow base 5 1 (.slice (some ⟨g, 0, none⟩) N C) N (bs (L.take off ++ (l.take dl ++ L.drop (off + min sn dl)))) → w.grownBy w' (some g) →
      wpList Try.prog ops Q rest (a.put o.dst (.int .i64 (min sn dl : Nat))) w') : wpList Try.prog ops Q (o :: rest) a w := by
  refine wpList_plain hgd fun K hK => ?_
  obtain ⟨w', hrun, h2, h3⟩ := run_copy_bytes o.type base g off dl dc N C L hown hfit hs
  unfold Oper.wp
  simp [execOp, ho, resolve, invoke, builtin, hd, hsv, hrun, Result.andThen]
  exact hK _ _ (h w' h2 h3)

theorem bs_replicate (n : Nat) : bs (List.replicate n 0) = List.replicate n (.int .u8 0) := by simp [bs, bv]
/-- make of so many bytes -/
theorem make_bytes {w : World} {ops : Array Oper} {rest : List Oper} {o : Oper} {a : Act} {Q : Exit → Act → World → Prop} (hgd : o.guard = none) (l c : Operand) (hop : o.op = .makeSlice 26 l c)
    (base : Nat) (L C : Int) (n : Nat) (hl : a.eval l = .int .i64 L) (hc : a.eval c = .int .i64 C) (hL : L = (n : Int)) (hC : C = (n : Int)) (hn : n ≤ 140737488355328) (hb : base ≤ w.heap.size)
    (hK : ∀ g w', Hid (g = w.heap.size) → base ≤ g → w'.ownsRow base 5 1 (.slice (some ⟨g, 0, none⟩) n n) n (bs (List.replicate n 0)) → w.grownBy w' none → wpList Try.prog ops Q rest (a.put o.dst (.slice (some ⟨g, 0, none⟩) n n)) w') :
    wpList Try.prog ops Q (o :: rest) a w := by
  obtain ⟨i0, hi, hz0, hz1, hz2⟩ := info_parts Try.infoB
  refine wpList_make_full w hgd l c 26 hop base 5 i0 (.int .u8 0) 1 Try.underlying26 hi hz0 hz1 .i64 .i64 L C n hl hc hL hC (by rw [hz2]; omega) (by simp only [maxLen]; omega) hb ?_
  intro w' h1 h2
  refine hK _ w' (Lib.hid rfl) hb ?_ h2
  rw [bs_replicate]
  have e : (madeCells (Value.int .u8 0).cells (n * 1)).toList = List.replicate n (.int .u8 0) := by
    rw [Nat.mul_one]; exact toList_madeCells_one _ _
  rw [e] at h1
  exact h1
theorem Same_at {F G : Nat → Prop} {A A' : Option Addr} {n n' c c' : Nat} {l l' : List UInt8} {w : World} (h : Sl w F A n c l) (h' : Sl w G A' n' c' l') (hl : n ≤ 9223372036854775807) (hl' : n' ≤ 9223372036854775807) (r : Bool) (hr : (l == l') = r) :
    Calls Try.prog 14 #[.slice A n c, .slice A' n' c'] w fun e w' => e = .returned (.bool r) ∧ ∃ k, w' = w.drewN k := by
  subst hr; exact SameBytes_sl h h' hl hl'
theorem own_mono {w : World} {base base' e size n : Nat} {v : Value} {xs : List Value} (h : w.ownsRow base e size v n xs) (hb : base' ≤ base) : w.ownsRow base' e size v n xs := by
  refine ⟨h.1, ?_⟩
  rcases h.2 with hn | ⟨g, cap, cur, hv, hbg, rest⟩
  · exact .inl hn
  · exact .inr ⟨g, cap, cur, hv, by omega, rest⟩
end Go.Proofs.Ytklclbppdoahjaa
/- Readings opened: bytes, arrays of bytes. -/
namespace Go.Proofs.Ytklclbppdoahjaa
set_option maxRecDepth 100000
open Go.RowKit Go.ChangeShapes Go.WideShapes Go.Deep

theorem byte_of_wf {z : Int} (h : (Lit.int .u8 z).wf = true) : ((UInt8.ofNat z.toNat).toNat : Int) = z := by
  have := bounds_u8 h
  rw [UInt8.toNat_ofNat', Nat.mod_eq_of_lt (by simp; omega)]
  omega
theorem block_of_cell {w : World} {ad : Addr} {v : Value} (h : w.cell? ad = some v) : ad.block < w.heap.size := World.block_lt_of_cell? _ _ h

section
variable {H : Type} {enc : TypeId × Value → H} {w : World} {base : Nat} {spare : Nat → Bool} {held : Bool} {fuel : Nat} {cs : List Value} {x : DataW H × List MemPlace}

theorem open_sl (h : DataW.trod enc Try.prog w base spare held fuel 26 cs = some x) :
    ∃ A n c l, cs = [.slice A n c] ∧ Sl w (Old w) A n c l ∧ (n = 0 ∨ ∃ e s, x.1 = .slice e s ∧ e.length = n) := by
  rcases open_ints Try.underlying26 Try.underlying5 (by kernel_rfl) h with ⟨rfl, rfl⟩ | ⟨a, len, cap, zs, rfl, _, hl, hm, hz, hx, hcell, hwz⟩
  · exact ⟨none, 0, 0, [], rfl, Sl.nil_ _ _, .inl rfl⟩
  · have hzl : len ≤ zs.length := by rw [hz]; split <;> omega
    have hget : ∀ j v, (bs ((zs.take len).map fun z => UInt8.ofNat z.toNat))[j]? = some v → w.cell? (a.add j) = some v := by
      intro j v hv
      have hj : j < len := by
        have := (List.getElem?_eq_some_iff.1 hv).1
        simp [bs] at this; omega
      have hc := hcell j (by omega)
      have hzj : zs[j]? = some zs[j] := List.getElem?_eq_getElem (by omega)
      rw [hc]
      simp only [bs, List.map_map, List.getElem?_map, List.getElem?_take, if_pos hj, hzj, Option.map_some, Option.some.injEq, Function.comp] at hv
      rw [← hv, bv, byte_of_wf (hwz _ (List.getElem_mem _))]
      simp [List.getD, hzj]
    refine ⟨some a, len, cap, (zs.take len).map fun z => UInt8.ofNat z.toNat, rfl, ⟨by simp; omega, hl, (fun e => by cases e), ?_, ?_⟩, .inr ⟨_, _, congrArg Prod.fst hx, by simp [lits]; omega⟩⟩
    · intro ad he hne
      injection he with he; subst he
      obtain ⟨v, hv⟩ := List.exists_mem_of_ne_nil _ hne
      obtain ⟨j, hj⟩ := List.getElem?_of_mem hv
      have := block_of_cell (hget j v hj)
      rw [addr_add_block] at this
      exact this
    · exact fun j v hv => ⟨a, rfl, hget j v hv⟩

theorem open_byte (h : DataW.trod enc Try.prog w base spare held fuel 5 cs = some x) : ∃ u, cs = [bv u] := by
  obtain ⟨n, rfl, _, hw⟩ := DataW.trod_int Try.underlying5 h
  exact ⟨UInt8.ofNat n.toNat, by rw [bv, byte_of_wf hw]⟩
theorem bs_of_all : ∀ cs : List Value, (∀ v ∈ cs, ∃ u, v = bv u) → ∃ l, cs = bs l
  | [], _ => ⟨[], rfl⟩
  | v :: cs, h => by
    obtain ⟨u, rfl⟩ := h v List.mem_cons_self
    obtain ⟨l, rfl⟩ := bs_of_all cs (fun v hv => h v (List.mem_cons_of_mem _ hv))
    exact ⟨u :: l, rfl⟩
theorem open_arr {T n : Nat} (hu : Try.prog.underlying T = some (.array n 5)) (hC : Try.prog.cellsOf T = n) (h : DataW.trod enc Try.prog w base spare held fuel T cs = some x) : ∃ l : List UInt8, l.length = n ∧ cs = bs l := by
  obtain ⟨xs, m, _, _, hlen, hxl, hf⟩ := DataW.trod_array hu h
  have hc1 : Try.prog.cellsOf 5 = 1 := by kernel_rfl
  rw [hC] at hlen
  obtain ⟨l, rfl⟩ := bs_of_all cs (fun v hv => by
    obtain ⟨i, hi⟩ := List.getElem?_of_mem hv
    have hin : i < cs.length := (List.getElem?_eq_some_iff.1 hi).1
    have h1 := hf i (by omega)
    rw [hc1, Nat.mul_one, List.getElem?_eq_getElem (show i < xs.length by omega)] at h1
    obtain ⟨u, hu⟩ := open_byte h1
    have h2 : (cs.drop i).take 1 = [cs[i]] := by
      rw [List.drop_eq_getElem_cons hin]; rfl
    rw [h2] at hu
    injection hu with hu
    refine ⟨u, ?_⟩
    rw [List.getElem?_eq_getElem hin] at hi
    injection hi with hi
    rw [← hi, hu])
  exact ⟨l, by rw [bs_length] at hlen; exact hlen, rfl⟩
end
/-- how long an argument's bytes may be -/
theorem sl_sized {H : Type} {ts : List TypeId} {ds : List (DataW H)} (h : (DataW.weightsEach Try.prog ts ds).all (· ≤ reachBytes) = true) {j n : Nat} {d : DataW H} (ht : ts[j]? = some 26) (hd : ds[j]? = some d)
    (hn : n = 0 ∨ ∃ e s, d = .slice e s ∧ e.length = n) : n ≤ 140737488351232 := by
  rcases hn with rfl | ⟨e, s, rfl, rfl⟩
  · omega
  · have := sized_slice h ht hd Try.underlying26
    have hb : Try.prog.bytesOf 5 = 1 := by kernel_rfl
    rw [hb] at this
    simp only [reachBytes] at this
    omega
end Go.Proofs.Ytklclbppdoahjaa
/- A region that draws its order, walked in one order: what yields the same in every world that meets S is taken first, the loud operations come up one at a time; from operation t on S is asked no more. -/
namespace Go.Proofs.Ytklclbppdoahjaa
set_option maxRecDepth 100000
open Go.RowKit
section
variable {P : Program} {ops : Array Oper} {Q : Exit → Act → World → Prop} {md : Region.Mode} {S : World → Prop} {t : Nat}

def OrdT (P : Program) (md : Region.Mode) (ops : Array Oper) (Q : Exit → Act → World → Prop) (S : World → Prop) (t : Nat) : Nat → Array Bool → Act → World → Prop
  | 0, listed, a, w => Region.ready md ops listed = [] ∧ Q .normal a w
  | f + 1, listed, a, w =>
    (Region.ready md ops listed = [] → Q .normal a w) ∧
    ∀ i ∈ Region.ready md ops listed, wpOp P ops Q i (fun a' w' => (i < t → S w') ∧ OrdT P md ops Q S t f (listed.setIfInBounds i true) a' w') a w

theorem any_of_ord : ∀ (f : Nat) (listed : Array Bool) (a : Act) (w : World), OrdT P md ops Q S t f listed a w → wpAny P md ops Q f listed a w
  | 0, _, _, _, h => h
  | f + 1, _, _, _, h => ⟨h.1, fun i hi => wpOp_mono (fun a' w' h' => any_of_ord f _ a' w' h'.2) (h.2 i hi)⟩

theorem ord_first {i : Nat} {oi : Oper} {v : Value} (hi : ops[i]? = some oi) (hit : i < t) (hsel : ∀ (j : Nat) (o : Oper) cs b, ops[j]? = some o → o.op ≠ .select cs b)
    (hwait : ∀ j oj, ops[j]? = some oj → t ≤ j → ∃ e ∈ oj.after, Region.binds md e = true ∧ e.on = i)
    (hQ : ∀ c a w, Q (.panic c) (a.put oi.dst v) w → Q (.panic c) a w) :
    ∀ (f : Nat) (listed : Array Bool) (a : Act) (w : World),
      (∀ j oj, ops[j]? = some oj → j ≠ i → listed.getD j true = false → (∀ e ∈ oj.after, Region.binds md e = true → e.on ≠ i) → oi.apart ops oj = true) →
      i ∈ Region.ready md ops listed → YieldsIf P ops S oi v a → S w →
      OrdT P md ops Q S t f (listed.setIfInBounds i true) (a.put oi.dst v) w → OrdT P md ops Q S t (f + 1) listed a w := by
  intro f
  induction f with
  | zero =>
    intro listed a w _ hr hy hS H
    refine ⟨fun h => (by rw [h] at hr; cases hr), fun j hj => ?_⟩
    by_cases hji : j = i
    · subst hji; exact hy.wpOp hi hS ⟨fun _ => hS, H⟩
    · have := ready_mono hj hji
      rw [H.1] at this
      cases this
  | succ f ih =>
    intro listed a w hfree hr hy hS H
    refine ⟨fun h => (by rw [h] at hr; cases hr), fun j hj => ?_⟩
    by_cases hji : j = i
    · subst hji; exact hy.wpOp hi hS ⟨fun _ => hS, H⟩
    · have h1 := H.2 j (ready_mono hj hji)
      obtain ⟨hjun, oj, hoj, hall⟩ := mem_ready.1 hj
      have hnot : ∀ e ∈ oj.after, Region.binds md e = true → e.on ≠ i := fun e he hb heq => by
        have h1 := hall e he hb
        have h0 := (mem_ready.1 hr).1
        rw [heq] at h1
        rcases Nat.lt_or_ge i listed.size with h' | h'
        · simp [h'] at h0 h1; rw [h0] at h1; cases h1
        · simp [Array.getElem?_eq_none h'] at h1
      have hjt : j < t := by
        rcases Nat.lt_or_ge j t with h | h
        · exact h
        · obtain ⟨e, he, hb, ho⟩ := hwait j oj hoj h
          exact absurd ho (hnot e he hb)
      have h2 := wpOp_putIf hoj (hfree j oj hoj hji hjun hnot) (fun cs b => hsel i oi cs b hi) (fun cs b => hsel j oj cs b hoj) hQ hy h1
      have hfree' : ∀ k ok, ops[k]? = some ok → k ≠ i → (listed.setIfInBounds j true).getD k true = false →
          (∀ e ∈ ok.after, Region.binds md e = true → e.on ≠ i) → oi.apart ops ok = true := fun k ok hk hki hun hno => by
        refine hfree k ok hk hki ?_ hno
        by_cases hjk : j = k
        · subst hjk; exact hjun
        · rw [getD_set_ne true hjk] at hun; exact hun
      refine wpOp_mono (fun a' w' h3 => ⟨h3.2.1, ih (listed.setIfInBounds j true) a' w' hfree' (ready_mono hr (Ne.symm hji)) h3.1 (h3.2.1 hjt) ?_⟩) h2
      rw [Array.setIfInBounds_comm _ _ hji]
      exact h3.2.2

/-- every operation from t on waits for i -/
def waitB (md : Region.Mode) (ops : Array Oper) (t i : Nat) : Bool := (List.range ops.size).all fun j => decide (j < t) || Region.waitsFor md ops j i
theorem waitB_spec {i : Nat} (h : waitB md ops t i = true) : ∀ j oj, ops[j]? = some oj → t ≤ j → ∃ e ∈ oj.after, Region.binds md e = true ∧ e.on = i := by
  intro j oj hj ht
  have hlt : j < ops.size := (Array.getElem?_eq_some_iff.1 hj).1
  have h1 := List.all_eq_true.1 h j (List.mem_range.2 hlt)
  simp only [Bool.or_eq_true, decide_eq_true_eq] at h1
  rcases h1 with h1 | h1
  · omega
  · obtain ⟨o', ho', e, he, hb, hon⟩ := Region.waitsFor_spec h1
    have : o' = oj := Option.some.inj (ho'.symm.trans hj)
    subst this
    exact ⟨e, he, hb, hon⟩

/-- is this order one that serves? (true: taken first) -/
def ordB (md : Region.Mode) (ops : Array Oper) (t : Nat) : List (Nat × Bool) → Array Bool → Bool
  | [], listed => (Region.ready md ops listed).isEmpty
  | (i, true) :: r, listed => (Region.ready md ops listed).contains i && Region.free md ops listed i && decide (i < t) && waitB md ops t i && ordB md ops t r (listed.setIfInBounds i true)
  | (i, false) :: r, listed => decide (Region.ready md ops listed = [i]) && ordB md ops t r (listed.setIfInBounds i true)

/-- the walk in that order -/
def wpOrd (P : Program) (ops : Array Oper) (Q : Exit → Act → World → Prop) (S : World → Prop) (t : Nat) : List (Nat × Bool) → Act → World → Prop
  | [], a, w => Q .normal a w
  | (i, true) :: r, a, w => S w ∧ ∃ o v, ops[i]? = some o ∧ YieldsIf P ops S o v a ∧ wpOrd P ops Q S t r (a.put o.dst v) w
  | (i, false) :: r, a, w => wpOp P ops Q i (fun a' w' => (i < t → S w') ∧ wpOrd P ops Q S t r a' w') a w

theorem ord_of (hs : Region.noSelect ops = true) (hQ : ∀ c a d v w, Q (.panic c) (Act.put a (some d) v) w → Q (.panic c) a w) : ∀ (r : List (Nat × Bool)) (listed : Array Bool) (a : Act) (w : World),
    ordB md ops t r listed = true → wpOrd P ops Q S t r a w → OrdT P md ops Q S t r.length listed a w
  | [], listed, a, w, hB, h => ⟨by simpa [ordB] using hB, h⟩
  | (i, true) :: r, listed, a, w, hB, h => by
    simp only [ordB, Bool.and_eq_true, decide_eq_true_eq] at hB
    obtain ⟨⟨⟨⟨hr, hf⟩, hit⟩, hw⟩, hB'⟩ := hB
    obtain ⟨hS, o, v, ho, hy, h'⟩ := h
    exact ord_first ho hit (Region.noSelect_spec hs) (waitB_spec hw) (fun c a w => by cases hd : o.dst with
      | none => exact id
      | some d => exact hQ c a d v w) r.length listed a w (Region.free_spec ho hf) (by simpa using hr) hy hS
      (ord_of hs hQ r _ _ w hB' h')
  | (i, false) :: r, listed, a, w, hB, h => by
    simp only [ordB, Bool.and_eq_true, decide_eq_true_eq] at hB
    refine ⟨fun h0 => (by rw [hB.1] at h0; cases h0), fun j hj => ?_⟩
    rw [hB.1] at hj
    have : j = i := by simpa using hj
    subst this
    exact wpOp_mono (fun a' w' h' => ⟨h'.1, ord_of hs hQ r _ a' w' hB.2 h'.2⟩) h

/-- THE BEGINNING. -/
theorem wp_region_ord {id : Nat} {l : List Oper} {a : Act} {w : World} (S : World → Prop) (t : Nat) (r : List (Nat × Bool)) (hm : P.follows .mixedOrders = true)
    (hB : (Region.noSelect l.toArray && decide (r.length = l.length) && ordB .any l.toArray t r (Array.replicate l.length false)) = true)
    (hQ : ∀ c a d v w, Q (.panic c) (Act.put a (some d) v) w → Q (.panic c) a w)
    (h : wpOrd P l.toArray Q S t r a w.drew) : (Code.region id l.toArray true).wp P Q a w := by
  simp only [Bool.and_eq_true, decide_eq_true_eq] at hB
  refine wp_region_any hm ?_
  have h1 := ord_of (md := .any) hB.1.1 hQ r _ a _ hB.2 h
  rw [hB.1.2] at h1
  have h2 := any_of_ord _ _ _ _ h1
  simpa using h2
theorem ord_take {i : Nat} {r : List (Nat × Bool)} {o : Oper} {v : Value} {a : Act} {w : World} (hS : S w) (ho : ops.toList[i]? = some o) (hg : o.guard = none)
    (hy : ∀ w', S w' → (execOp a.eval o).run P w' = .ok (.value v) w') (h : wpOrd P ops Q S t r (a.put o.dst v) w) : wpOrd P ops Q S t ((i, true) :: r) a w :=
  ⟨hS, o, v, by simpa using ho, .inl ⟨by simp [Region.wanted, hg], hy⟩, h⟩
theorem ord_end {a : Act} {w : World} (h : Q .normal a w) : wpOrd P ops Q S t [] a w := h
theorem ord_move {i : Nat} {r : List (Nat × Bool)} {dst : Option Tmp} {x : Operand} {ty : TypeId} {pos : String} {after : Array Edge} {a : Act} {w : World} (hS : S w) (ho : ops.toList[i]? = some ⟨dst, .move x, ty, pos, after, none⟩)
    (h : wpOrd P ops Q S t r (a.put dst (a.eval x)) w) : wpOrd P ops Q S t ((i, true) :: r) a w :=
  ord_take hS ho rfl (fun _ _ => rfl) h
theorem ord_run {i : Nat} {r : List (Nat × Bool)} {o : Oper} {a : Act} {w : World} (ho : ops.toList[i]? = some o) (hg : o.guard = none)
    (h : ∀ K : Act → World → Prop, (∀ a' w', ((i < t → S w') ∧ wpOrd P ops Q S t r a' w') → K a' w') → o.wp P a w K Q) : wpOrd P ops Q S t ((i, false) :: r) a w := by
  show wpOp P ops Q i _ a w
  have ho' : ops[i]? = some o := by simpa using ho
  unfold wpOp
  simp only [ho']
  rw [if_pos (by simp [Region.wanted, hg])]
  exact .inl (h _ fun _ _ h => h)
def yldUpon (o : Oper) (a : Act) (w : World) (K : Act → Prop) : Result Next → Prop
  | .ok (.value v) w' => w' = w ∧ K (a.put o.dst v)
  | _ => False
def yld (P : Program) (o : Oper) (a : Act) (w : World) (K : Act → Prop) : Prop := yldUpon o a w K ((execOp a.eval o).run P w)
theorem yldUpon_value (o : Oper) (a : Act) (w : World) (K : Act → Prop) (v : Value) : yldUpon o a w K (.ok (.value v) w) = K (a.put o.dst v) := by simp [yldUpon]
/-- one that only reads, the new frame written out -/
theorem ord_yld {i d : Nat} {r : List (Nat × Bool)} {o : Oper} {a : Act} {w : World} (hS : S w) (ho : ops.toList[i]? = some o) (hg : o.guard = none) (hd : o.dst = some d) (hlt : d < a.tmps.size)
    (h : ∃ a1, (∀ w', S w' → ∀ K : Act → Prop, K a1 → yld P o a w' K) ∧ wpOrd P ops Q S t r a1 w) : wpOrd P ops Q S t ((i, true) :: r) a w := by
  obtain ⟨a1, hy, h⟩ := h
  have key : ∀ w', S w' → ∃ v, (execOp a.eval o).run P w' = .ok (.value v) w' ∧ a.put (some d) v = a1 := by
    intro w' hS'
    have h1 := hy w' hS' (· = a1) rfl
    unfold yld at h1
    generalize hr : (execOp a.eval o).run P w' = rr at h1
    cases rr with
    | ok n w'' =>
      cases n <;> simp only [yldUpon] at h1
      case value v => obtain ⟨rfl, h2⟩ := h1; exact ⟨v, rfl, by rw [← hd]; exact h2⟩
    | halt x w'' => simp only [yldUpon] at h1
  obtain ⟨v, hv, ha⟩ := key w hS
  refine ord_take (v := v) hS ho hg (fun w' hS' => ?_) (by rw [hd, ha]; exact h)
  obtain ⟨v', hv', ha'⟩ := key w' hS'
  have e : v' = v := by
    have e1 : (a.put (some d) v').tmps[d]? = (a.put (some d) v).tmps[d]? := by rw [ha, ha']
    simpa [Act.put, Array.getElem?_setIfInBounds, hlt] using e1
  rw [hv', e]
theorem ord_load_mid {i d : Nat} {r : List (Nat × Bool)} {ty : TypeId} {x : Operand} {typ : TypeId} {pos : String} {after : Array Edge} {a : Act} {w : World} (hS : S w)
    (ho : ops.toList[i]? = some ⟨some d, .load ty x, typ, pos, after, none⟩) (b o : Nat) (cs : List Value) (de : TypeDesc) (hx : a.eval x = .pointer (some ⟨b, o, none⟩)) (hc : ∀ w', S w' → w'.rangeAt b o cs)
    (hu : P.underlying ty = some de) (hd : de.isRow = true) (hi : (P.info? ty).map (·.size) = some cs.length)
    (h : wpOrd P ops Q S t r (a.put (some d) (.agg cs.toArray)) w) : wpOrd P ops Q S t ((i, true) :: r) a w := by
  refine ord_take hS ho rfl (fun w' hS' => ?_) h
  unfold execOp
  simp only [hx, Instr.loadAt, Instr.sureAddr, Sem.run_bind, Sem.run_pure, Result.andThen_ok, run_loadVar_mid w' b o ty cs de (hc w' hS') hu hd hi]
end
end Go.Proofs.Ytklclbppdoahjaa
/- A region that draws its order, walked in one order, parted where two loud operations may come either way. -/
namespace Go.Proofs.Ytklclbppdoahjaa
set_option maxRecDepth 100000
open Go.RowKit
section
variable {P : Program} {ops : Array Oper} {Q : Exit → Act → World → Prop} {S : World → Prop} {t : Nat}

inductive OT where
  | done
  | take (i : Nat) (r : OT)
  | run (i : Nat) (r : OT)
  | two (i j : Nat) (r s : OT)

def OT.size : OT → Nat
  | .done => 0
  | .take _ r => r.size + 1
  | .run _ r => r.size + 1
  | .two _ _ r _ => r.size + 1

def otB (md : Region.Mode) (ops : Array Oper) (t : Nat) : OT → Array Bool → Bool
  | .done, listed => (Region.ready md ops listed).isEmpty
  | .take i r, listed => (Region.ready md ops listed).contains i && Region.free md ops listed i && decide (i < t) && waitB md ops t i && otB md ops t r (listed.setIfInBounds i true)
  | .run i r, listed => decide (Region.ready md ops listed = [i]) && otB md ops t r (listed.setIfInBounds i true)
  | .two i j r s, listed => decide (Region.ready md ops listed = [i, j]) && decide (r.size = s.size) && otB md ops t r (listed.setIfInBounds i true) && otB md ops t s (listed.setIfInBounds j true)

def wpOT (P : Program) (ops : Array Oper) (Q : Exit → Act → World → Prop) (S : World → Prop) (t : Nat) : OT → Act → World → Prop
  | .done, a, w => Q .normal a w
  | .take i r, a, w => S w ∧ ∃ o v, ops[i]? = some o ∧ YieldsIf P ops S o v a ∧ wpOT P ops Q S t r (a.put o.dst v) w
  | .run i r, a, w => wpOp P ops Q i (fun a' w' => (i < t → S w') ∧ wpOT P ops Q S t r a' w') a w
  | .two i j r s, a, w => wpOp P ops Q i (fun a' w' => (i < t → S w') ∧ wpOT P ops Q S t r a' w') a w ∧ wpOp P ops Q j (fun a' w' => (j < t → S w') ∧ wpOT P ops Q S t s a' w') a w

theorem ot_of {md : Region.Mode} (hs : Region.noSelect ops = true) (hQ : ∀ c a d v w, Q (.panic c) (Act.put a (some d) v) w → Q (.panic c) a w) : ∀ (r : OT) (listed : Array Bool) (a : Act) (w : World),
    otB md ops t r listed = true → wpOT P ops Q S t r a w → OrdT P md ops Q S t r.size listed a w
  | .done, listed, a, w, hB, h => ⟨by simpa [otB] using hB, h⟩
  | .take i r, listed, a, w, hB, h => by
    simp only [otB, Bool.and_eq_true, decide_eq_true_eq] at hB
    obtain ⟨⟨⟨⟨hr, hf⟩, hit⟩, hw⟩, hB'⟩ := hB
    obtain ⟨hS, o, v, ho, hy, h'⟩ := h
    exact ord_first ho hit (Region.noSelect_spec hs) (waitB_spec hw) (fun c a w => by cases hd : o.dst with
      | none => exact id
      | some d => exact hQ c a d v w) r.size listed a w (Region.free_spec ho hf) (by simpa using hr) hy hS
      (ot_of hs hQ r _ _ w hB' h')
  | .run i r, listed, a, w, hB, h => by
    simp only [otB, Bool.and_eq_true, decide_eq_true_eq] at hB
    refine ⟨fun h0 => (by rw [hB.1] at h0; cases h0), fun j hj => ?_⟩
    rw [hB.1] at hj
    have : j = i := by simpa using hj
    subst this
    exact wpOp_mono (fun a' w' h' => ⟨h'.1, ot_of hs hQ r _ a' w' hB.2 h'.2⟩) h
  | .two i j r s, listed, a, w, hB, h => by
    simp only [otB, Bool.and_eq_true, decide_eq_true_eq] at hB
    obtain ⟨⟨⟨hr, hsz⟩, hB1⟩, hB2⟩ := hB
    refine ⟨fun h0 => (by rw [hr] at h0; cases h0), fun k hk => ?_⟩
    rw [hr] at hk
    simp only [List.mem_cons, List.not_mem_nil, or_false] at hk
    rcases hk with rfl | rfl
    · exact wpOp_mono (fun a' w' h' => ⟨h'.1, ot_of hs hQ r _ a' w' hB1 h'.2⟩) h.1
    · refine wpOp_mono (fun a' w' h' => ⟨h'.1, ?_⟩) h.2
      have h2 := ot_of hs hQ s _ a' w' hB2 h'.2
      show OrdT P md ops Q S t r.size _ a' w'
      rw [hsz]; exact h2

/-- THE BEGINNING. -/
theorem wp_region_ot {id : Nat} {l : List Oper} {a : Act} {w : World} (S : World → Prop) (t : Nat) (r : OT) (hm : P.follows .mixedOrders = true)
    (hB : (Region.noSelect l.toArray && decide (r.size = l.length) && otB .any l.toArray t r (Array.replicate l.length false)) = true)
    (hQ : ∀ c a d v w, Q (.panic c) (Act.put a (some d) v) w → Q (.panic c) a w)
    (h : wpOT P l.toArray Q S t r a w.drew) : (Code.region id l.toArray true).wp P Q a w := by
  simp only [Bool.and_eq_true, decide_eq_true_eq] at hB
  refine wp_region_any hm ?_
  have h1 := ot_of (md := .any) hB.1.1 hQ r _ a _ hB.2 h
  rw [hB.1.2] at h1
  have h2 := any_of_ord _ _ _ _ h1
  simpa using h2
theorem ot_take {i : Nat} {r : OT} {o : Oper} {v : Value} {a : Act} {w : World} (hS : S w) (ho : ops.toList[i]? = some o) (hg : o.guard = none)
    (hy : ∀ w', S w' → (execOp a.eval o).run P w' = .ok (.value v) w') (h : wpOT P ops Q S t r (a.put o.dst v) w) : wpOT P ops Q S t (.take i r) a w :=
  ⟨hS, o, v, by simpa using ho, .inl ⟨by simp [Region.wanted, hg], hy⟩, h⟩
theorem ot_done {a : Act} {w : World} (h : Q .normal a w) : wpOT P ops Q S t .done a w := h
theorem wpOp_run {i : Nat} {o : Oper} {a : Act} {w : World} {K : Act → World → Prop} (ho : ops.toList[i]? = some o) (hw : Region.wanted o (yielded ops a.tmps) = true) (h : o.wp P a w K Q) : wpOp P ops Q i K a w := by
  have ho' : ops[i]? = some o := by simpa using ho
  unfold wpOp
  simp only [ho']
  rw [if_pos hw]
  exact .inl h
theorem ot_run {i : Nat} {r : OT} {o : Oper} {a : Act} {w : World} (ho : ops.toList[i]? = some o) (hw : Region.wanted o (yielded ops a.tmps) = true)
    (h : ∀ K : Act → World → Prop, (∀ a' w', ((i < t → S w') ∧ wpOT P ops Q S t r a' w') → K a' w') → o.wp P a w K Q) : wpOT P ops Q S t (.run i r) a w :=
  wpOp_run ho hw (h _ fun _ _ h => h)
theorem ot_two {i j : Nat} {r s : OT} {o o' : Oper} {a : Act} {w : World} (ho : ops.toList[i]? = some o) (ho' : ops.toList[j]? = some o') (hw : Region.wanted o (yielded ops a.tmps) = true) (hw' : Region.wanted o' (yielded ops a.tmps) = true)
    (h : ∀ K : Act → World → Prop, (∀ a' w', ((i < t → S w') ∧ wpOT P ops Q S t r a' w') → K a' w') → o.wp P a w K Q)
    (h' : ∀ K : Act → World → Prop, (∀ a' w', ((j < t → S w') ∧ wpOT P ops Q S t s a' w') → K a' w') → o'.wp P a w K Q) : wpOT P ops Q S t (.two i j r s) a w :=
  ⟨wpOp_run ho hw (h _ fun _ _ h => h), wpOp_run ho' hw' (h' _ fun _ _ h => h)⟩
end
end Go.Proofs.Ytklclbppdoahjaa
/- A region that draws its order, walked in one order (or two): each operation that is taken first says what it asks of the world; each loud one keeps that for those that it does not wait for. -/
namespace Go.Proofs.Ytklclbppdoahjaa
set_option maxRecDepth 100000
open Go.RowKit
section
variable {P : Program} {ops : Array Oper} {Q : Exit → Act → World → Prop} {md : Region.Mode} {S : Nat → World → Prop} {ts : List Nat}

def KeepS (md : Region.Mode) (ops : Array Oper) (S : Nat → World → Prop) (ts : List Nat) (j : Nat) (w w' : World) : Prop := ∀ i ∈ ts, Region.waitsFor md ops j i = false → S i w → S i w'

def OrdS (P : Program) (md : Region.Mode) (ops : Array Oper) (Q : Exit → Act → World → Prop) (S : Nat → World → Prop) (ts : List Nat) : Nat → Array Bool → Act → World → Prop
  | 0, listed, a, w => Region.ready md ops listed = [] ∧ Q .normal a w
  | f + 1, listed, a, w =>
    (Region.ready md ops listed = [] → Q .normal a w) ∧
    ∀ i ∈ Region.ready md ops listed, wpOp P ops Q i (fun a' w' => KeepS md ops S ts i w w' ∧ OrdS P md ops Q S ts f (listed.setIfInBounds i true) a' w') a w

theorem any_of_ordS : ∀ (f : Nat) (listed : Array Bool) (a : Act) (w : World), OrdS P md ops Q S ts f listed a w → wpAny P md ops Q f listed a w
  | 0, _, _, _, h => h
  | f + 1, _, _, _, h => ⟨h.1, fun i hi => wpOp_mono (fun a' w' h' => any_of_ordS f _ a' w' h'.2) (h.2 i hi)⟩

theorem waits_no {j i : Nat} {oj : Oper} (hj : ops[j]? = some oj) (h : ∀ e ∈ oj.after, Region.binds md e = true → e.on ≠ i) : Region.waitsFor md ops j i = false := by
  cases hw : Region.waitsFor md ops j i with
  | false => rfl
  | true =>
    obtain ⟨o', ho', e, he, hb, hon⟩ := Region.waitsFor_spec hw
    have : o' = oj := Option.some.inj (ho'.symm.trans hj)
    subst this
    exact absurd hon (h e he hb)

theorem ordS_first {i : Nat} {oi : Oper} {v : Value} {Si : World → Prop} (hi : ops[i]? = some oi) (hsel : ∀ (j : Nat) (o : Oper) cs b, ops[j]? = some o → o.op ≠ .select cs b)
    (hts : (i ∈ ts ∧ Si = S i) ∨ ∀ w, Si w) (hQ : ∀ c a w, Q (.panic c) (a.put oi.dst v) w → Q (.panic c) a w) :
    ∀ (f : Nat) (listed : Array Bool) (a : Act) (w : World),
      (∀ j oj, ops[j]? = some oj → j ≠ i → listed.getD j true = false → (∀ e ∈ oj.after, Region.binds md e = true → e.on ≠ i) → oi.apart ops oj = true) →
      i ∈ Region.ready md ops listed → YieldsIf P ops Si oi v a → Si w →
      OrdS P md ops Q S ts f (listed.setIfInBounds i true) (a.put oi.dst v) w → OrdS P md ops Q S ts (f + 1) listed a w := by
  intro f
  induction f with
  | zero =>
    intro listed a w _ hr hy hS H
    refine ⟨fun h => (by rw [h] at hr; cases hr), fun j hj => ?_⟩
    by_cases hji : j = i
    · subst hji; exact hy.wpOp hi hS ⟨fun _ _ _ h => h, H⟩
    · have := ready_mono hj hji
      rw [H.1] at this
      cases this
  | succ f ih =>
    intro listed a w hfree hr hy hS H
    refine ⟨fun h => (by rw [h] at hr; cases hr), fun j hj => ?_⟩
    by_cases hji : j = i
    · subst hji; exact hy.wpOp hi hS ⟨fun _ _ _ h => h, H⟩
    · have h1 := H.2 j (ready_mono hj hji)
      obtain ⟨hjun, oj, hoj, hall⟩ := mem_ready.1 hj
      have hnot : ∀ e ∈ oj.after, Region.binds md e = true → e.on ≠ i := fun e he hb heq => by
        have h1 := hall e he hb
        have h0 := (mem_ready.1 hr).1
        rw [heq] at h1
        rcases Nat.lt_or_ge i listed.size with h' | h'
        · simp [h'] at h0 h1; rw [h0] at h1; cases h1
        · simp [Array.getElem?_eq_none h'] at h1
      have hwn := waits_no hoj hnot
      have h2 := wpOp_putIf hoj (hfree j oj hoj hji hjun hnot) (fun cs b => hsel i oi cs b hi) (fun cs b => hsel j oj cs b hoj) hQ hy h1
      have hfree' : ∀ k ok, ops[k]? = some ok → k ≠ i → (listed.setIfInBounds j true).getD k true = false →
          (∀ e ∈ ok.after, Region.binds md e = true → e.on ≠ i) → oi.apart ops ok = true := fun k ok hk hki hun hno => by
        refine hfree k ok hk hki ?_ hno
        by_cases hjk : j = k
        · subst hjk; exact hjun
        · rw [getD_set_ne true hjk] at hun; exact hun
      refine wpOp_mono (fun a' w' h3 => ⟨h3.2.1, ih (listed.setIfInBounds j true) a' w' hfree' (ready_mono hr (Ne.symm hji)) h3.1 ?_ ?_⟩) h2
      · rcases hts with ⟨hm, rfl⟩ | ht
        · exact h3.2.1 i hm hwn hS
        · exact ht w'
      · rw [Array.setIfInBounds_comm _ _ hji]
        exact h3.2.2

inductive OS where
  | done
  | take (i : Nat) (r : OS)
  | move (i : Nat) (r : OS)
  | run (i : Nat) (ks : List Nat) (r : OS)
  | two (i : Nat) (ks : List Nat) (r : OS) (j : Nat) (ls : List Nat) (s : OS)

def OS.size : OS → Nat
  | .done => 0
  | .take _ r => r.size + 1
  | .move _ r => r.size + 1
  | .run _ _ r => r.size + 1
  | .two _ _ r _ _ _ => r.size + 1

def keepB (md : Region.Mode) (ops : Array Oper) (ts : List Nat) (j : Nat) (ks : List Nat) : Bool := ts.all fun i => ks.contains i || Region.waitsFor md ops j i

def osB (md : Region.Mode) (ops : Array Oper) (ts : List Nat) : OS → Array Bool → Bool
  | .done, listed => (Region.ready md ops listed).isEmpty
  | .take i r, listed => (Region.ready md ops listed).contains i && Region.free md ops listed i && ts.contains i && osB md ops ts r (listed.setIfInBounds i true)
  | .move i r, listed => (Region.ready md ops listed).contains i && Region.free md ops listed i && osB md ops ts r (listed.setIfInBounds i true)
  | .run i ks r, listed => decide (Region.ready md ops listed = [i]) && keepB md ops ts i ks && osB md ops ts r (listed.setIfInBounds i true)
  | .two i ks r j ls s, listed => decide (Region.ready md ops listed = [i, j]) && decide (r.size = s.size) && keepB md ops ts i ks && keepB md ops ts j ls && osB md ops ts r (listed.setIfInBounds i true) && osB md ops ts s (listed.setIfInBounds j true)

def wpOS (P : Program) (ops : Array Oper) (Q : Exit → Act → World → Prop) (S : Nat → World → Prop) : OS → Act → World → Prop
  | .done, a, w => Q .normal a w
  | .take i r, a, w => S i w ∧ ∃ o v, ops[i]? = some o ∧ YieldsIf P ops (S i) o v a ∧ wpOS P ops Q S r (a.put o.dst v) w
  | .move i r, a, w => ∃ o v, ops[i]? = some o ∧ YieldsIf P ops (fun _ => True) o v a ∧ wpOS P ops Q S r (a.put o.dst v) w
  | .run i ks r, a, w => wpOp P ops Q i (fun a' w' => (∀ k ∈ ks, S k w → S k w') ∧ wpOS P ops Q S r a' w') a w
  | .two i ks r j ls s, a, w => wpOp P ops Q i (fun a' w' => (∀ k ∈ ks, S k w → S k w') ∧ wpOS P ops Q S r a' w') a w ∧ wpOp P ops Q j (fun a' w' => (∀ k ∈ ls, S k w → S k w') ∧ wpOS P ops Q S s a' w') a w

theorem keep_of {j : Nat} {ks : List Nat} {w w' : World} (hB : keepB md ops ts j ks = true) (h : ∀ k ∈ ks, S k w → S k w') : KeepS md ops S ts j w w' := fun i hi hw => by
  have := List.all_eq_true.1 hB i hi
  rw [hw, Bool.or_false] at this
  exact h i (by simpa using this)

theorem os_of (hs : Region.noSelect ops = true) (hQ : ∀ c a d v w, Q (.panic c) (Act.put a (some d) v) w → Q (.panic c) a w) : ∀ (r : OS) (listed : Array Bool) (a : Act) (w : World),
    osB md ops ts r listed = true → wpOS P ops Q S r a w → OrdS P md ops Q S ts r.size listed a w
  | .done, listed, a, w, hB, h => ⟨by simpa [osB] using hB, h⟩
  | .take i r, listed, a, w, hB, h => by
    simp only [osB, Bool.and_eq_true] at hB
    obtain ⟨⟨⟨hr, hf⟩, hts⟩, hB'⟩ := hB
    obtain ⟨hS, o, v, ho, hy, h'⟩ := h
    exact ordS_first ho (Region.noSelect_spec hs) (.inl ⟨by simpa using hts, rfl⟩) (fun c a w => by cases hd : o.dst with
      | none => exact id
      | some d => exact hQ c a d v w) r.size listed a w (Region.free_spec ho hf) (by simpa using hr) hy hS
      (os_of hs hQ r _ _ w hB' h')
  | .move i r, listed, a, w, hB, h => by
    simp only [osB, Bool.and_eq_true] at hB
    obtain ⟨⟨hr, hf⟩, hB'⟩ := hB
    obtain ⟨o, v, ho, hy, h'⟩ := h
    exact ordS_first ho (Region.noSelect_spec hs) (.inr fun _ => trivial) (fun c a w => by cases hd : o.dst with
      | none => exact id
      | some d => exact hQ c a d v w) r.size listed a w (Region.free_spec ho hf) (by simpa using hr) hy trivial
      (os_of hs hQ r _ _ w hB' h')
  | .run i ks r, listed, a, w, hB, h => by
    simp only [osB, Bool.and_eq_true, decide_eq_true_eq] at hB
    obtain ⟨⟨hr, hk⟩, hB'⟩ := hB
    refine ⟨fun h0 => (by rw [hr] at h0; cases h0), fun j hj => ?_⟩
    rw [hr] at hj
    have : j = i := by simpa using hj
    subst this
    exact wpOp_mono (fun a' w' h' => ⟨keep_of hk h'.1, os_of hs hQ r _ a' w' hB' h'.2⟩) h
  | .two i ks r j ls s, listed, a, w, hB, h => by
    simp only [osB, Bool.and_eq_true, decide_eq_true_eq] at hB
    obtain ⟨⟨⟨⟨⟨hr, hsz⟩, hk1⟩, hk2⟩, hB1⟩, hB2⟩ := hB
    refine ⟨fun h0 => (by rw [hr] at h0; cases h0), fun k hk => ?_⟩
    rw [hr] at hk
    simp only [List.mem_cons, List.not_mem_nil, or_false] at hk
    rcases hk with rfl | rfl
    · exact wpOp_mono (fun a' w' h' => ⟨keep_of hk1 h'.1, os_of hs hQ r _ a' w' hB1 h'.2⟩) h.1
    · refine wpOp_mono (fun a' w' h' => ⟨keep_of hk2 h'.1, ?_⟩) h.2
      have h2 := os_of hs hQ s _ a' w' hB2 h'.2
      show OrdS P md ops Q S ts r.size _ a' w'
      rw [hsz]; exact h2

/-- THE BEGINNING. -/
theorem wp_region_os {id : Nat} {l : List Oper} {a : Act} {w : World} (S : Nat → World → Prop) (ts : List Nat) (r : OS) (hm : P.follows .mixedOrders = true)
    (hB : (Region.noSelect l.toArray && decide (r.size = l.length) && osB .any l.toArray ts r (Array.replicate l.length false)) = true)
    (hQ : ∀ c a d v w, Q (.panic c) (Act.put a (some d) v) w → Q (.panic c) a w)
    (h : wpOS P l.toArray Q S r a w.drew) : (Code.region id l.toArray true).wp P Q a w := by
  simp only [Bool.and_eq_true, decide_eq_true_eq] at hB
  refine wp_region_any hm ?_
  have h1 := os_of (md := .any) hB.1.1 hQ r _ a _ hB.2 h
  rw [hB.1.2] at h1
  have h2 := any_of_ordS _ _ _ _ h1
  simpa using h2
/-- what only ends normally -/
theorem wp_calm {c : Code} {a : Act} {w : World} (h : c.wp P (fun e a w => e = .normal ∧ Q .normal a w) a w) : c.wp P Q a w :=
  wp_mono h (by rintro e a w ⟨rfl, h⟩; exact h)
theorem os_done {a : Act} {w : World} (h : Q .normal a w) : wpOS P ops Q S .done a w := h
/-- one that only reads, the new frame written out -/
theorem os_yld {i d : Nat} {r : OS} {o : Oper} {a : Act} {w : World} (hS : S i w) (ho : ops.toList[i]? = some o) (hg : o.guard = none) (hd : o.dst = some d) (hlt : d < a.tmps.size)
    (h : ∃ a1, (∀ w', S i w' → ∀ K : Act → Prop, K a1 → yld P o a w' K) ∧ wpOS P ops Q S r a1 w) : wpOS P ops Q S (.take i r) a w := by
  obtain ⟨a1, hy, h⟩ := h
  have key : ∀ w', S i w' → ∃ v, (execOp a.eval o).run P w' = .ok (.value v) w' ∧ a.put (some d) v = a1 := by
    intro w' hS'
    have h1 := hy w' hS' (· = a1) rfl
    unfold yld at h1
    generalize hr : (execOp a.eval o).run P w' = rr at h1
    cases rr with
    | ok n w'' =>
      cases n <;> simp only [yldUpon] at h1
      case value v => obtain ⟨rfl, h2⟩ := h1; exact ⟨v, rfl, by rw [← hd]; exact h2⟩
    | halt x w'' => simp only [yldUpon] at h1
  obtain ⟨v, hv, ha⟩ := key w hS
  refine ⟨hS, o, v, by simpa using ho, .inl ⟨by simp [Region.wanted, hg], fun w' hS' => ?_⟩, by rw [hd, ha]; exact h⟩
  obtain ⟨v', hv', ha'⟩ := key w' hS'
  have e : v' = v := by
    have e1 : (a.put (some d) v').tmps[d]? = (a.put (some d) v).tmps[d]? := by rw [ha, ha']
    simpa [Act.put, Array.getElem?_setIfInBounds, hlt] using e1
  rw [hv', e]
/-- the same, guarded and wanted -/
theorem os_yldg {i d : Nat} {r : OS} {o : Oper} {a : Act} {w : World} (hS : S i w) (ho : ops.toList[i]? = some o) (hw : Region.wanted o (yielded ops a.tmps) = true) (hd : o.dst = some d) (hlt : d < a.tmps.size)
    (h : ∃ a1, (∀ w', S i w' → ∀ K : Act → Prop, K a1 → yld P o a w' K) ∧ wpOS P ops Q S r a1 w) : wpOS P ops Q S (.take i r) a w := by
  obtain ⟨a1, hy, h⟩ := h
  have key : ∀ w', S i w' → ∃ v, (execOp a.eval o).run P w' = .ok (.value v) w' ∧ a.put (some d) v = a1 := by
    intro w' hS'
    have h1 := hy w' hS' (· = a1) rfl
    unfold yld at h1
    generalize hr : (execOp a.eval o).run P w' = rr at h1
    cases rr with
    | ok n w'' =>
      cases n <;> simp only [yldUpon] at h1
      case value v => obtain ⟨rfl, h2⟩ := h1; exact ⟨v, rfl, by rw [← hd]; exact h2⟩
    | halt x w'' => simp only [yldUpon] at h1
  obtain ⟨v, hv, ha⟩ := key w hS
  refine ⟨hS, o, v, by simpa using ho, .inl ⟨hw, fun w' hS' => ?_⟩, by rw [hd, ha]; exact h⟩
  obtain ⟨v', hv', ha'⟩ := key w' hS'
  have e : v' = v := by
    have e1 : (a.put (some d) v').tmps[d]? = (a.put (some d) v).tmps[d]? := by rw [ha, ha']
    simpa [Act.put, Array.getElem?_setIfInBounds, hlt] using e1
  rw [hv', e]
theorem os_moveg {i d : Nat} {r : OS} {o : Oper} {a : Act} {w : World} (ho : ops.toList[i]? = some o) (hw : Region.wanted o (yielded ops a.tmps) = true) (hd : o.dst = some d) (hlt : d < a.tmps.size)
    (h : ∃ a1, (∀ w', ∀ K : Act → Prop, K a1 → yld P o a w' K) ∧ wpOS P ops Q S r a1 w) : wpOS P ops Q S (.move i r) a w := by
  obtain ⟨a1, hy, h⟩ := h
  have h1 := os_yldg (S := fun _ _ => True) (Q := fun _ _ _ => True) (r := .done) (P := P) (i := i) (w := w) (a := a) trivial ho hw hd hlt ⟨a1, fun w' _ => hy w', trivial⟩
  obtain ⟨_, o', v, ho', hyi, _⟩ := h1
  have key := hy w (· = a1) rfl
  refine ⟨o', v, ho', hyi, ?_⟩
  have : o' = o := by
    have e : ops[i]? = some o := by simpa using ho
    rw [e] at ho'; injection ho' with ho'; exact ho'.symm
  subst this
  have hval : a.put o'.dst v = a1 := by
    unfold yld at key
    rcases hyi with hyi | hyi
    · have h2 := hyi.2 w trivial
      rw [h2] at key
      simp only [yldUpon] at key
      exact key.2
    · exact absurd hyi.1 (by rw [hw]; simp)
  rw [hval]; exact h
theorem os_two {i j : Nat} {ks ls : List Nat} {r s : OS} {o o' : Oper} {a : Act} {w : World} (ho : ops.toList[i]? = some o) (ho' : ops.toList[j]? = some o') (hw : Region.wanted o (yielded ops a.tmps) = true) (hw' : Region.wanted o' (yielded ops a.tmps) = true)
    (h : ∀ K : Act → World → Prop, (∀ a' w', ((∀ k ∈ ks, S k w → S k w') ∧ wpOS P ops Q S r a' w') → K a' w') → o.wp P a w K Q)
    (h' : ∀ K : Act → World → Prop, (∀ a' w', ((∀ k ∈ ls, S k w → S k w') ∧ wpOS P ops Q S s a' w') → K a' w') → o'.wp P a w K Q) : wpOS P ops Q S (.two i ks r j ls s) a w :=
  ⟨wpOp_run ho hw (h _ fun _ _ h => h), wpOp_run ho' hw' (h' _ fun _ _ h => h)⟩
theorem os_take {i : Nat} {r : OS} {o : Oper} {v : Value} {a : Act} {w : World} (hS : S i w) (ho : ops.toList[i]? = some o) (hg : o.guard = none)
    (hy : ∀ w', S i w' → (execOp a.eval o).run P w' = .ok (.value v) w') (h : wpOS P ops Q S r (a.put o.dst v) w) : wpOS P ops Q S (.take i r) a w :=
  ⟨hS, o, v, by simpa using ho, .inl ⟨by simp [Region.wanted, hg], hy⟩, h⟩
theorem os_move {i d : Nat} {r : OS} {o : Oper} {a : Act} {w : World} (ho : ops.toList[i]? = some o) (hg : o.guard = none) (hd : o.dst = some d) (hlt : d < a.tmps.size)
    (h : ∃ a1, (∀ w', ∀ K : Act → Prop, K a1 → yld P o a w' K) ∧ wpOS P ops Q S r a1 w) : wpOS P ops Q S (.move i r) a w := by
  obtain ⟨a1, hy, h⟩ := h
  have h1 := os_yld (S := fun _ _ => True) (Q := fun _ _ _ => True) (r := .done) (P := P) (i := i) (w := w) (a := a) trivial ho hg hd hlt ⟨a1, fun w' _ => hy w', trivial⟩
  obtain ⟨_, o', v, ho', hyi, _⟩ := h1
  have key := hy w (· = a1) rfl
  refine ⟨o', v, ho', hyi, ?_⟩
  have : o' = o := by
    have e : ops[i]? = some o := by simpa using ho
    rw [e] at ho'; injection ho' with ho'; exact ho'.symm
  subst this
  have hval : a.put o'.dst v = a1 := by
    unfold yld at key
    rcases hyi with hyi | hyi
    · have h2 := hyi.2 w trivial
      rw [h2] at key
      simp only [yldUpon] at key
      exact key.2
    · exact absurd hyi.1 (by simp [Region.wanted, hg])
  rw [hval]; exact h
theorem os_run {i : Nat} {ks : List Nat} {r : OS} {o : Oper} {a : Act} {w : World} (ho : ops.toList[i]? = some o) (hw : Region.wanted o (yielded ops a.tmps) = true)
    (h : ∀ K : Act → World → Prop, (∀ a' w', ((∀ k ∈ ks, S k w → S k w') ∧ wpOS P ops Q S r a' w') → K a' w') → o.wp P a w K Q) : wpOS P ops Q S (.run i ks r) a w :=
  wpOp_run ho hw (h _ fun _ _ h => h)
end
end Go.Proofs.Ytklclbppdoahjaa
/- Words of 32 bits as values. -/
namespace Go.Proofs.Ytklclbppdoahjaa
set_option maxRecDepth 100000
open Go.RowKit

/-- a word as a value -/
def wv (w : BitVec 32) : Int := (w.toNat : Int)
theorem ofInt_wv (w : BitVec 32) : BitVec.ofInt (IntKind.u32.bits) (wv w) = w := by
  apply BitVec.eq_of_toNat_eq
  have := w.isLt
  show (BitVec.ofInt 32 _).toNat = _
  rw [BitVec.toNat_ofInt]
  have h1 : w.toNat < 4294967296 := w.isLt
  have h2 : ((2 ^ 32 : Nat) : Int) = 4294967296 := rfl
  rw [h2]
  show (((w.toNat : Nat) : Int) % 4294967296).toNat = w.toNat
  omega
theorem wrap_wv (w : BitVec 32) : IntKind.u32.wrap (w.toNat : Int) = wv w := by
  have := w.isLt
  simp only [wv, IntKind.wrap, IntKind.signed, IntKind.bits]
  simp
  omega
theorem xor32 (a b : BitVec 32) : bits .xor .u32 (wv a) (wv b) = wv (a ^^^ b) := by
  show IntKind.u32.wrap ((BitVec.ofInt _ _ ^^^ BitVec.ofInt _ _).toNat : Int) = _
  rw [ofInt_wv, ofInt_wv]
  exact wrap_wv _
theorem or32 (a b : BitVec 32) : bits .or .u32 (wv a) (wv b) = wv (a ||| b) := by
  show IntKind.u32.wrap ((BitVec.ofInt _ _ ||| BitVec.ofInt _ _).toNat : Int) = _
  rw [ofInt_wv, ofInt_wv]
  exact wrap_wv _
theorem wv_lt (a : BitVec 32) : 0 ≤ wv a ∧ wv a < 4294967296 := by
  have : a.toNat < 4294967296 := a.isLt
  unfold wv; omega
theorem wv_ofNat {x : Nat} (h : x < 4294967296) : wv (BitVec.ofNat 32 x) = (x : Int) := by
  simp only [wv, BitVec.toNat_ofNat]; omega
theorem add32 (a b : BitVec 32) : (wv a + wv b) % 4294967296 = wv (a + b) := by
  unfold wv; rw [BitVec.toNat_add]; omega
theorem shl32 (a : BitVec 32) (n : Nat) : wv a * 2 ^ n % 4294967296 = wv (a <<< n) := by
  have e : wv a * 2 ^ n = ((a.toNat * 2 ^ n : Nat) : Int) := by simp [wv]
  rw [e]
  unfold wv
  rw [BitVec.toNat_shiftLeft, Nat.shiftLeft_eq]
  omega
theorem shr32 (a : BitVec 32) (n : Nat) : wv a / 2 ^ n = wv (a >>> n) := by
  have e : wv a / 2 ^ n = ((a.toNat / 2 ^ n : Nat) : Int) := by simp [wv]
  rw [e]
  unfold wv
  rw [BitVec.toNat_ushiftRight, Nat.shiftRight_eq_div_pow]
/-- turned left -/
def rotl (x : BitVec 32) (n : Nat) : BitVec 32 := (x <<< n) ||| (x >>> (32 - n))
/-- a word of four bytes, the lowest first -/
def leW (a b c d : UInt8) : BitVec 32 := BitVec.ofNat 32 (a.toNat + b.toNat * 256 + c.toNat * 65536 + d.toNat * 16777216)
theorem leW_toNat (a b c d : UInt8) : (leW a b c d).toNat = a.toNat + b.toNat * 256 + c.toNat * 65536 + d.toNat * 16777216 := by
  have h1 := a.toNat_lt; have h2 := b.toNat_lt; have h3 := c.toNat_lt; have h4 := d.toNat_lt
  simp only [Nat.reducePow] at h1 h2 h3 h4
  unfold leW
  rw [BitVec.toNat_ofNat]; simp only [Nat.reducePow]; omega
theorem or_num (k x y : Nat) (hx : x % 2 ^ k = 0) (hy : y < 2 ^ k) (h1 : x < 4294967296) (h2 : y < 4294967296) (h3 : x + y < 4294967296) : bits .or .u32 (x : Int) (y : Int) = ((x + y : Nat) : Int) := by
  rw [← wv_ofNat h1, ← wv_ofNat h2, ← wv_ofNat h3]
  show IntKind.u32.wrap ((BitVec.ofInt _ _ ||| BitVec.ofInt _ _).toNat : Int) = _
  rw [ofInt_wv, ofInt_wv]
  have e : BitVec.ofNat 32 x ||| BitVec.ofNat 32 y = BitVec.ofNat 32 (x + y) := by
    apply BitVec.eq_of_toNat_eq
    rw [BitVec.toNat_or]
    simp only [BitVec.toNat_ofNat, Nat.reducePow]
    rw [Nat.mod_eq_of_lt h1, Nat.mod_eq_of_lt h2, Nat.mod_eq_of_lt h3]
    exact nat_join k x y hx hy
  rw [← e]
  exact wrap_wv _
theorem or_comm32 (x y : Nat) (h1 : x < 4294967296) (h2 : y < 4294967296) : bits .or .u32 (x : Int) (y : Int) = bits .or .u32 (y : Int) (x : Int) := by
  rw [← wv_ofNat h1, ← wv_ofNat h2, or32, or32, BitVec.or_comm]
theorem le_num (a b d e : UInt8) : bits .or .u32 (bits .or .u32 (bits .or .u32 ((a.toNat : Int) % 4294967296) ((b.toNat : Int) % 4294967296 * 256 % 4294967296)) ((d.toNat : Int) % 4294967296 * 65536 % 4294967296)) ((e.toNat : Int) % 4294967296 * 16777216 % 4294967296) = wv (leW a b d e) := by
  have ha := a.toNat_lt; have hb := b.toNat_lt; have hd := d.toNat_lt; have he := e.toNat_lt
  simp only [Nat.reducePow] at ha hb hd he
  have e1 : (a.toNat : Int) % 4294967296 = ((a.toNat : Nat) : Int) := by omega
  have e2 : (b.toNat : Int) % 4294967296 * 256 % 4294967296 = ((b.toNat * 256 : Nat) : Int) := by omega
  have e3 : (d.toNat : Int) % 4294967296 * 65536 % 4294967296 = ((d.toNat * 65536 : Nat) : Int) := by omega
  have e4 : (e.toNat : Int) % 4294967296 * 16777216 % 4294967296 = ((e.toNat * 16777216 : Nat) : Int) := by omega
  rw [e1, e2, e3, e4]
  rw [or_comm32 _ _ (by omega) (by omega), or_num 8 _ _ (by simp only [Nat.reducePow]; omega) (by simp only [Nat.reducePow]; omega) (by omega) (by omega) (by omega)]
  rw [or_comm32 _ _ (by omega) (by omega), or_num 16 _ _ (by simp only [Nat.reducePow]; omega) (by simp only [Nat.reducePow]; omega) (by omega) (by omega) (by omega)]
  rw [or_comm32 _ _ (by omega) (by omega), or_num 24 _ _ (by simp only [Nat.reducePow]; omega) (by simp only [Nat.reducePow]; omega) (by omega) (by omega) (by omega)]
  unfold wv
  rw [leW_toNat]
  congr 1; omega
end Go.Proofs.Ytklclbppdoahjaa
/- Arrays of bytes and words read as arguments. -/
namespace Go.Proofs.Ytklclbppdoahjaa
set_option maxRecDepth 100000
open Go.RowKit Go.ChangeShapes Go.WideShapes
theorem okWide_arr {P : Program} {w : World} {r : Reach} {base : Nat} {t : TypeId} {v : Value} {n : Nat} {e : TypeId} (ht : P.underlying t = some (.array n e)) (h : Value.okWide P w r base t v) : ∃ cs, v = .agg cs := by
  simp only [Value.okWide, ht] at h
  obtain ⟨cs, h1, _⟩ := h
  exact ⟨cs, h1⟩
/-- a number of 32 bits is a word's -/
theorem word_of_wf {z : Int} (h : (Lit.int .u32 z).wf = true) : z = wv (BitVec.ofInt 32 z) := by
  have h2 := bounds_u32 h
  unfold wv
  rw [BitVec.toNat_ofInt]
  have : ((2 ^ 32 : Nat) : Int) = 4294967296 := rfl
  rw [this]; omega
end Go.Proofs.Ytklclbppdoahjaa
/- A range over a function, by frames: what the iterator, and what a round, may turn. -/
namespace Go.Proofs.Ytklclbppdoahjaa
set_option maxRecDepth 100000
open Go.RowKit

theorem Fr.putObj {M : Nat → Prop} {a w : World} (h : Fr M a w) {r : Nat} (hr : M r ∨ a.heap.size ≤ r) (o : Obj) : Fr M a (w.putObj r o) :=
  ⟨h.os, h.tape, h.output, by simpa using h.size, fun i hi hn => (World.putObj_heap_other (by
    rintro rfl
    rcases hr with hr | hr
    · exact hn hr
    · omega)).trans (h.block i hi hn)⟩

/-- a function's contract by its body, where this holds a range over a function -/
theorem calls_of_marks {P : Program} {f : FuncId} {fn : Func} {c : Code} {args : Array Value} {w : World} {R : Ending → World → Prop} (hf : P.funcs[f]? = some fn) (hb : fn.body = some c)
    (h : c.wp P (bodyPostM Fence.wide 0 P fn R) { tmps := args ++ Array.replicate (fn.ntmps - args.size) undef, defers := [] } w) : Calls P f args w R :=
  callsIn_wide.1 (callsIn_of_wp_marks (F := Fence.wide) (n := 0) hf hb trivial (wpIn_wide.2 h) rfl)
theorem calls_in {P : Program} {f : FuncId} {args : Array Value} {w : World} {R : Ending → World → Prop} (n : Nat) (l : Nat) (h : Calls P f args w R) : CallsIn (Fence.wide.inRound l) n P f args w R :=
  CallsIn.inRound l (callsIn_wide.2 h)

/-- an iterator's contract: it goes through N rounds, or till one says no more; round k is handed what Arg k says, of the world in which the last round ended and of its own; it turns blocks of M alone, and new ones; a round may turn whatever it does not need -/
def Iter (P : Program) (gf : Nat) (lb : Array Value) (Need M : Nat → Prop) (N : Nat) (Arg : Nat → World → World → Array Value → Prop) (Inf : Prop) (w0 : World) : Prop :=
  ∀ (l : Nat) (J : Nat → World → Prop) (Jx : World → Prop) (W : World), Fr NoB w0 W →
    (∀ k W1 W2, J k W1 → Fr M W1 W2 → J k W2) →
    (∀ W1 W2, Jx W1 → Fr M W1 W2 → Jx W2) →
    (∀ k W0 W1 args, k < N → J k W0 → Fr M W0 W1 → Arg k W0 W1 args → YieldAt Fence.wide 0 P l args W1 fun e W' =>
      (e = .returned (.bool true) ∧ J (k + 1) W' ∧ Fr (fun j => ¬ Need j) W1 W') ∨ (e = .returned (.bool false) ∧ Jx W')) →
    (Inf → ∀ W1, ¬ J N W1) → J 0 W →
    CallsIn Fence.wide 0 P gf (#[.func (.yield l) #[] #[]] ++ lb) W fun e W' => (∃ v, e = .returned v) ∧ (J N W' ∨ Jx W')

/-- what a round may not turn: what the iterator needs, and the loop's own two blocks -/
def Bd (Need : Nat → Prop) (D : Nat) : Nat → Prop := fun j => ¬ Need j ∧ j ≠ D ∧ j ≠ D + 1

def rPost (B : Nat → Prop) (I : Nat → World → Prop) (Ix : Code → World → Prop) (k : Nat) (W : World) : Exit → Act → World → Prop
  | .normal, _, W' => Fr B W W' ∧ I (k + 1) W'
  | .ret, _, W' => Fr B W W' ∧ Ix .ret W'
  | .exit id, _, W' => Fr B W W' ∧ Ix (.exit id) W'
  | .goto t, _, W' => Fr B W W' ∧ Ix (.goto t) W'
  | .panic _, _, _ => False
  | .outgrown, _, _ => False

theorem wp_range {P : Program} {g : Operand} {ps : Array Tmp} {assign body : Code} {Q : Exit → Act → World → Prop} {a : Act} {w : World} {gf : Nat} {lb : Array Value}
    (hg : a.eval g = .func (.func gf) #[] lb) (eg : ∀ args w, (callFunc gf args).run P w = .ok (.enter gf args) w)
    {Need M : Nat → Prop} {N : Nat} {Arg : Nat → World → World → Array Value → Prop} {Inf : Prop} (hit : Iter P gf lb Need M N Arg Inf w)
    (hNeed : ∀ j, Need j → j < w.heap.size) (hM : ∀ j, M j → j < w.heap.size)
    (I : Nat → World → Prop) (Ix : Code → World → Prop)
    (hI : ∀ k W1 W2, I k W1 → Fr (fun j => M j ∨ j = w.heap.size ∨ j = w.heap.size + 1) W1 W2 → I k W2)
    (hIx : ∀ c W1 W2, Ix c W1 → Fr (fun j => M j ∨ j = w.heap.size ∨ j = w.heap.size + 1) W1 W2 → Ix c W2)
    (h0 : I 0 w) (hps : ∀ k W0 W1 args, Arg k W0 W1 args → args.size = ps.size)
    (hround : ∀ k W0 W1 args, k < N → I k W0 → w.heap.size + 2 ≤ W0.heap.size → Fr M W0 W1 → Arg k W0 W1 args →
      assign.wpIn (Fence.wide.inRound (w.heap.size + 1)) 0 P (Exit.then (fun a1 W2 => Fr (Bd Need w.heap.size) W1 W2 ∧ ∀ W3, Fr (fun j => j = w.heap.size + 1) W2 W3 →
        body.wpIn (Fence.wide.inRound (w.heap.size + 1)) 0 P (rPost (Bd Need w.heap.size) I Ix k W3) a1 W3) (fun _ _ _ => False))
        { tmps := (ps.zip args).foldl (fun t (p, v) => t.setIfInBounds p v) a.tmps, defers := [] } W1)
    (hinf : Inf → ∀ W1, ¬ I N W1)
    (hdone : ∀ W, I N W → W.heap[w.heap.size]? = some (.deferred (some [])) → Q .normal { a with defers := { target := .collected w.heap.size, args := #[] } :: a.defers } W)
    (hstop : ∀ c W, Ix c W → W.heap[w.heap.size]? = some (.deferred (some [])) → c.wp P Q { a with defers := { target := .collected w.heap.size, args := #[] } :: a.defers } W) :
    (Code.rangeFunc g ps assign body).wp P Q a w := by
  refine (wpIn_wide (n := 0)).1 (wpIn_rangeFunc ?_)
  intro fn _
  obtain ⟨rec, hrec⟩ : ∃ rec : LoopState → Option Code → Loop, rec = fun st pe => { state := st, pending := pe, fn, tmps := a.tmps, params := ps, assign, body, defers := w.heap.size } := ⟨_, rfl⟩
  obtain ⟨W1, hW1⟩ : ∃ W1, (w.alloc (.deferred (some []))).alloc (.loop (rec .ready none)) = W1 := ⟨_, rfl⟩
  have hL1 : W1.heap[w.heap.size + 1]? = some (.loop (rec .ready none)) := by
    rw [← hW1]; have := World.alloc_heap_new (w.alloc (.deferred (some []))) (.loop (rec .ready none)); rwa [World.size_alloc] at this
  have hK1 : W1.heap[w.heap.size]? = some (.deferred (some [])) := by
    rw [← hW1]; exact (Below.heap_alloc _ _ _ (by simp)).trans (World.alloc_heap_new w _)
  have hF1 : ∀ M, Fr M w W1 := fun M => by rw [← hW1]; exact ((Fr.refl M w).alloc _).alloc _
  have hI1 : I 0 W1 := hI _ _ _ h0 (hF1 _)
  have hMD : ∀ j, M j → j ≠ w.heap.size ∧ j ≠ w.heap.size + 1 := fun j hj => by have := hM j hj; omega
  have hND : ¬ Need w.heap.size ∧ ¬ Need (w.heap.size + 1) := ⟨fun h => by have := hNeed _ h; omega, fun h => by have := hNeed _ h; omega⟩
  refine ⟨w.heap.size + 1, [{ target := .collected w.heap.size, args := #[] }], W1, { target := .fn (.func gf) lb, args := #[.func (.yield (w.heap.size + 1)) #[] #[]] }, W1, gf,
    #[.func (.yield (w.heap.size + 1)) #[] #[]] ++ lb, W1, ?_, ?_, ?_, ?_, fun h => (by cases h), ?_⟩
  · rw [← hW1, hrec]; exact run_enterLoop_outer _ _ _ _ _
  · simp only [resolve, hg]
    simp [go_sem]
  · intro f' _; trivial
  · simp [invoke, go_sem, eg]
  · have keep : ∀ {A B : World}, A.heap[w.heap.size + 1]? ≠ none → Fr M A B → B.heap[w.heap.size + 1]? = A.heap[w.heap.size + 1]? ∧ B.heap[w.heap.size]? = A.heap[w.heap.size]? := fun {A B} hA hf => by
      have hlt : w.heap.size + 1 < A.heap.size := by
        rcases Nat.lt_or_ge (w.heap.size + 1) A.heap.size with h | h
        · exact h
        · exact absurd (Array.getElem?_eq_none h) hA
      exact ⟨hf.block _ hlt (fun e => (hMD _ e).2 rfl), hf.block _ (by omega) (fun e => (hMD _ e).1 rfl)⟩
    refine (hit (w.heap.size + 1)
      (fun k W => I k W ∧ W.heap[w.heap.size + 1]? = some (.loop (rec .ready none)) ∧ W.heap[w.heap.size]? = some (.deferred (some [])))
      (fun W => ∃ c, Ix c W ∧ W.heap[w.heap.size + 1]? = some (.loop (rec .done (some c))) ∧ W.heap[w.heap.size]? = some (.deferred (some [])))
      W1 (hF1 _)
      (fun k A B ⟨hi, hl, hk⟩ hf => by
        obtain ⟨k1, k2⟩ := keep (by rw [hl]; simp) hf
        exact ⟨hI _ _ _ hi (hf.mono fun _ _ h => .inl h), k1.trans hl, k2.trans hk⟩)
      (fun A B ⟨c, hi, hl, hk⟩ hf => by
        obtain ⟨k1, k2⟩ := keep (by rw [hl]; simp) hf
        exact ⟨c, hIx _ _ _ hi (hf.mono fun _ _ h => .inl h), k1.trans hl, k2.trans hk⟩)
      ?_ (fun hinf1 W ⟨hi, _⟩ => hinf hinf1 W hi) ⟨hI1, hL1, hK1⟩).mono ?_
    · rintro k W0 W args hkN ⟨hi, hl, hk⟩ hf0 harg
      have hlt0 : w.heap.size + 1 < W0.heap.size := (Array.getElem?_eq_some_iff.1 hl).1
      obtain ⟨kk1, kk2⟩ := keep (by rw [hl]; simp) hf0
      replace hl := kk1.trans hl
      replace hk := kk2.trans hk
      have hlt : w.heap.size + 1 < W.heap.size := (Array.getElem?_eq_some_iff.1 hl).1
      have hy := run_yield (P := P) (args := args) hl (by rw [hrec]; exact hps _ _ _ _ harg)
      rw [hrec] at hy
      refine ⟨fn, _, assign, body, hy, roundIn_of_wpIn trivial ?_⟩
      refine Go.wpIn_mono (hround k W0 W args hkN hi (by omega) hf0 harg) ?_
      intro e a1 W2 h2
      cases e with
      | normal =>
        obtain ⟨hf2, hb⟩ := h2
        have hl2 : W2.heap[w.heap.size + 1]? = some (.loop (rec .ready none)) := (hf2.block _ hlt (fun e => e.2.2 rfl)).trans hl
        have hk2 : W2.heap[w.heap.size]? = some (.deferred (some [])) := (hf2.block _ (by omega) (fun e => e.2.1 rfl)).trans hk
        have hlt2 : w.heap.size + 1 < W2.heap.size := (Array.getElem?_eq_some_iff.1 hl2).1
        refine ⟨_, run_beginRound hl2 (by rw [hrec]), ?_⟩
        have hf3 : Fr (fun j => j = w.heap.size + 1) W2 (W2.putObj (w.heap.size + 1) (.loop { rec .ready none with state := .busy })) := (Fr.refl (fun j => j = w.heap.size + 1) W2).putObj (.inl rfl) _
        refine Go.wpIn_mono (hb _ hf3) ?_
        have hl3 : (W2.putObj (w.heap.size + 1) (.loop { rec .ready none with state := .busy })).heap[w.heap.size + 1]? = some (.loop { rec .ready none with state := .busy }) := World.putObj_heap_same hlt2
        have hk3 : (W2.putObj (w.heap.size + 1) (.loop { rec .ready none with state := .busy })).heap[w.heap.size]? = some (.deferred (some [])) := (World.putObj_heap_other (by omega)).trans hk2
        have hlt3 : w.heap.size + 1 < (W2.putObj (w.heap.size + 1) (.loop { rec .ready none with state := .busy })).heap.size := by simpa using hlt2
        generalize W2.putObj (w.heap.size + 1) (.loop { rec .ready none with state := .busy }) = W3 at hf3 hl3 hk3 hlt3
        have fin : ∀ (jump : Option Code) (W4 : World), Fr (Bd Need w.heap.size) W3 W4 →
            (Instr.endRound (w.heap.size + 1) jump).run P W4 = .ok (.bool jump.isNone) (W4.putObj (w.heap.size + 1) (.loop (rec (if jump.isNone then .ready else .done) jump))) ∧
            (W4.putObj (w.heap.size + 1) (.loop (rec (if jump.isNone then .ready else .done) jump))).heap[w.heap.size + 1]? = some (.loop (rec (if jump.isNone then .ready else .done) jump)) ∧
            (W4.putObj (w.heap.size + 1) (.loop (rec (if jump.isNone then .ready else .done) jump))).heap[w.heap.size]? = some (.deferred (some [])) ∧
            Fr (fun j => ¬ Need j) W (W4.putObj (w.heap.size + 1) (.loop (rec (if jump.isNone then .ready else .done) jump))) ∧
            Fr (fun j => M j ∨ j = w.heap.size ∨ j = w.heap.size + 1) W4 (W4.putObj (w.heap.size + 1) (.loop (rec (if jump.isNone then .ready else .done) jump))) := fun jump W4 hf4 => by
          have hl4 : W4.heap[w.heap.size + 1]? = some (.loop { rec .ready none with state := .busy }) := (hf4.block _ hlt3 (fun e => e.2.2 rfl)).trans hl3
          have hk4 : W4.heap[w.heap.size]? = some (.deferred (some [])) := (hf4.block _ (by omega) (fun e => e.2.1 rfl)).trans hk3
          have hr := run_endRound (P := P) jump hl4
          refine ⟨by rw [hrec] at hr ⊢; exact hr, World.putObj_heap_same (Array.getElem?_eq_some_iff.1 hl4).1, (World.putObj_heap_other (by omega)).trans hk4, ?_, (Fr.refl _ _).putObj (.inl (.inr (.inr rfl))) _⟩
          exact (((hf2.mono fun _ _ h => h.1).trans hf3 (fun j _ e => by subst e; exact hND.2)).trans (hf4.mono fun _ _ h => h.1) (fun _ _ h => h)).putObj (.inl hND.2) _
        rintro e a3 W4 hp
        cases e with
        | normal =>
          obtain ⟨hf4, hi4⟩ := hp
          obtain ⟨hr, hl5, hk5, hf5, hf6⟩ := fin none W4 hf4
          exact ⟨_, _, hr, .inl ⟨rfl, ⟨hI _ _ _ hi4 hf6, hl5, hk5⟩, hf5⟩⟩
        | ret =>
          obtain ⟨hf4, hi4⟩ := hp
          obtain ⟨hr, hl5, hk5, hf5, hf6⟩ := fin (some .ret) W4 hf4
          exact ⟨_, _, hr, .inr ⟨rfl, .ret, hIx _ _ _ hi4 hf6, hl5, hk5⟩⟩
        | exit id =>
          obtain ⟨hf4, hi4⟩ := hp
          obtain ⟨hr, hl5, hk5, hf5, hf6⟩ := fin (some (.exit id)) W4 hf4
          exact ⟨_, _, hr, .inr ⟨rfl, .exit id, hIx _ _ _ hi4 hf6, hl5, hk5⟩⟩
        | goto t =>
          obtain ⟨hf4, hi4⟩ := hp
          obtain ⟨hr, hl5, hk5, hf5, hf6⟩ := fin (some (.goto t)) W4 hf4
          exact ⟨_, _, hr, .inr ⟨rfl, .goto t, hIx _ _ _ hi4 hf6, hl5, hk5⟩⟩
        | panic ch => exact hp.elim
        | outgrown => exact hp.elim
      | ret => exact h2.elim
      | exit id => exact h2.elim
      | goto t => exact h2.elim
      | panic ch => exact h2.elim
      | outgrown => exact h2.elim
    · rintro e W2 ⟨⟨v, rfl⟩, (⟨hi, hl, hk⟩ | ⟨c, hi, hl, hk⟩)⟩
      · exact ⟨none, _, by have := run_endLoop (P := P) hl (by rw [hrec]; simp); rw [hrec] at this; exact this, hdone _ (hI _ _ _ hi ((Fr.refl _ _).putObj (.inl (.inr (.inr rfl))) _)) ((World.putObj_heap_other (by omega)).trans hk)⟩
      · exact ⟨some c, _, by have := run_endLoop (P := P) hl (by rw [hrec]; simp); rw [hrec] at this; exact this, wpIn_wide.2 (hstop c _ (hIx _ _ _ hi ((Fr.refl _ _).putObj (.inl (.inr (.inr rfl))) _)) ((World.putObj_heap_other (by omega)).trans hk))⟩

/-! A region that draws, in a round. -/
section
variable {P : Program} {ops : Array Oper} {Q : Exit → Act → World → Prop}
theorem op_in {n l : Nat} {o : Oper} {a : Act} {w : World} {K : Act → World → Prop} (hd : ∀ c, o.op ≠ .defer c) (h : o.wp P a w K Q) : o.wpIn (Fence.wide.inRound l) n P a w K Q := by
  refine ⟨fun f _ => trivial, ?_⟩
  show o.uponIn _ n P a K Q ((Oper.semAt (some l) a.eval o).run P w)
  rw [Oper.semAt_some l _ _ hd]
  unfold Oper.wp at h
  generalize (execOp a.eval o).run P w = r at h
  cases r with
  | ok x w' =>
    cases x <;> simp only [Oper.upon] at h <;> simp only [Oper.uponIn] <;> first
      | exact h
      | exact ⟨fun h => (by cases h), CallsIn.inRound l (callsIn_wide.2 h)⟩
      | exact ⟨fun h => (by cases h), fun c cs _ => (by
          obtain ⟨v, w2, hr, hs⟩ := h c cs
          exact ⟨v, w2, hr, stepsIn_wide.2 hs⟩)⟩
  | halt x w' => cases x <;> simp only [Oper.upon] at h <;> simp only [Oper.uponIn] <;> exact h

def noDefer (ops : Array Oper) : Bool := ops.toList.all fun o => match o.op with | .defer _ => false | _ => true
theorem noDefer_spec (h : noDefer ops = true) {i : Nat} {o : Oper} (ho : ops[i]? = some o) : ∀ c, o.op ≠ .defer c := by
  intro c e
  have hm : o ∈ ops.toList := by
    have := Array.mem_of_getElem? ho
    simpa using this
  have := List.all_eq_true.1 h o hm
  rw [e] at this
  cases this
theorem wpOp_in {n l i : Nat} {a : Act} {w : World} {K : Act → World → Prop} (hd : noDefer ops = true) (hQ : ¬ LetsOut Q) (h : wpOp P ops Q i K a w) : wpOpIn (Fence.wide.inRound l) n P ops Q i K a w := by
  unfold wpOp at h
  unfold wpOpIn
  split
  · rename_i h0; simpa [h0] using h
  · rename_i o ho
    simp only [ho] at h
    split
    · rename_i hw
      rw [if_pos hw] at h
      rcases h with h | h
      · exact op_in (noDefer_spec hd ho) h
      · exact absurd h.2 hQ
    · rename_i hw
      rw [if_neg hw] at h
      exact ⟨fun _ _ => trivial, h⟩
theorem any_in {n l : Nat} {md : Region.Mode} (hd : noDefer ops = true) (hQ : ¬ LetsOut Q) : ∀ (f : Nat) (listed : Array Bool) (a : Act) (w : World), wpAny P md ops Q f listed a w → wpAnyIn (Fence.wide.inRound l) n P md ops Q f listed a w
  | 0, _, _, _, h => h
  | f + 1, _, _, _, h => ⟨h.1, fun i hi => wpOpIn_mono (fun a w => any_in hd hQ f _ a w) (wpOp_in hd hQ (h.2 i hi))⟩
/-- a region that draws, in a round, walked in one order (or two) -/
theorem wpIn_region_ot {n l : Nat} {S : World → Prop} {id : Nat} {lo : List Oper} {a : Act} {w : World} (hn : noDefer lo.toArray = true) (hQo : ¬ LetsOut Q) (t : Nat) (r : OT) (hm : P.follows .mixedOrders = true)
    (hB : (Region.noSelect lo.toArray && decide (r.size = lo.length) && otB .any lo.toArray t r (Array.replicate lo.length false)) = true)
    (hQ : ∀ c a d v w, Q (.panic c) (Act.put a (some d) v) w → Q (.panic c) a w)
    (h : wpOT P lo.toArray Q S t r a w.drew) : (Code.region id lo.toArray true).wpIn (Fence.wide.inRound l) n P Q a w := by
  simp only [Bool.and_eq_true, decide_eq_true_eq] at hB
  refine wpIn_region_any hm ?_
  have h1 := ot_of (md := .any) hB.1.1 hQ r _ a _ hB.2 h
  rw [hB.1.2] at h1
  have h2 := any_in (n := n) (l := l) hn hQo _ _ _ _ (any_of_ord _ _ _ _ h1)
  simpa using h2
theorem wpIn_region_os {n l : Nat} {id : Nat} {lo : List Oper} {a : Act} {w : World} (hn : noDefer lo.toArray = true) (hQo : ¬ LetsOut Q) (S : Nat → World → Prop) (ts : List Nat) (r : OS) (hm : P.follows .mixedOrders = true)
    (hB : (Region.noSelect lo.toArray && decide (r.size = lo.length) && osB .any lo.toArray ts r (Array.replicate lo.length false)) = true)
    (hQ : ∀ c a d v w, Q (.panic c) (Act.put a (some d) v) w → Q (.panic c) a w)
    (h : wpOS P lo.toArray Q S r a w.drew) : (Code.region id lo.toArray true).wpIn (Fence.wide.inRound l) n P Q a w := by
  simp only [Bool.and_eq_true, decide_eq_true_eq] at hB
  refine wpIn_region_any hm ?_
  have h1 := os_of (md := .any) hB.1.1 hQ r _ a _ hB.2 h
  rw [hB.1.2] at h1
  have h2 := any_in (n := n) (l := l) hn hQo _ _ _ _ (any_of_ordS _ _ _ _ h1)
  simpa using h2
end
end Go.Proofs.Ytklclbppdoahjaa
/- The square of words, in memory and turned. -/
namespace Go.Proofs.Ytklclbppdoahjaa
set_option maxRecDepth 100000
open Go.RowKit

/-- words as cells -/
def wl (s : List (BitVec 32)) : List Value := s.map fun x => .int .u32 (wv x)
theorem wl_length (s : List (BitVec 32)) : (wl s).length = s.length := by simp [wl]
theorem wl_set (s : List (BitVec 32)) (i : Nat) (x : BitVec 32) : (wl s).set i (.int .u32 (wv x)) = wl (s.set i x) := by simp [wl, List.map_set]
theorem wl_oneCell (s : List (BitVec 32)) : ∀ u ∈ wl s, u.oneCell' = true := by
  intro u hu
  simp only [wl, List.mem_map] at hu
  obtain ⟨x, _, rfl⟩ := hu
  rfl
def gw (s : List (BitVec 32)) (i : Nat) : BitVec 32 := s.getD i 0
theorem gw_eq {s : List (BitVec 32)} {i : Nat} (h : i < s.length) : gw s i = s[i] := by simp [gw, List.getD, h]
/-- n words of its own in a block -/
def SqB (w : World) (T g n c : Nat) (s : List (BitVec 32)) : Prop := w.ownsRow g T 1 (.slice (some ⟨g, 0, none⟩) n c) n (wl s)
theorem SqB.len {w : World} {T g n c : Nat} {s : List (BitVec 32)} (h : SqB w T g n c s) : s.length = n := by
  have := h.1; rw [wl_length] at this; omega
theorem SqB.cell {w : World} {T g n c : Nat} {s : List (BitVec 32)} (h : SqB w T g n c s) {i : Nat} (hi : i < n) : w.cell? ⟨g, i, none⟩ = some (.int .u32 (wv (gw s i))) := by
  have := World.ownsRow.cellAt h i (by omega)
  have hl := h.len
  rw [this, gw_eq (by omega)]
  simp [wl, hl, hi]
theorem SqB.set {w : World} {T g n c : Nat} {s : List (BitVec 32)} (h : SqB w T g n c s) (i : Nat) (x : BitVec 32) : SqB (w.setCell ⟨g, i, none⟩ (.int .u32 (wv x))) T g n c (s.set i x) := by
  have := (World.ownsRow.stored h i (.int .u32 (wv x))).1
  rw [wl_set] at this; exact this
theorem SqB.drewN {w : World} {T g n c : Nat} {s : List (BitVec 32)} (h : SqB w T g n c s) (k : Nat) : SqB (w.drewN k) T g n c s := h
theorem SqB.frz {w : World} {T g n c : Nat} {s : List (BitVec 32)} (h : SqB w T g n c s) (i : Nat) : w.frozen? ⟨g, i, none⟩ = false := World.ownsRow.frozenAt h i
theorem SqB.fr {w w' : World} {T g n c : Nat} {s : List (BitVec 32)} (h : SqB w T g n c s) {M : Nat → Prop} (hf : Fr M w w') (hg : ¬ M g) (hn : 0 < n) : SqB w' T g n c s := by
  obtain ⟨g', cap, hv, _, hlt⟩ := World.ownsRow.form h hn
  injection hv with h1 _ _; injection h1 with h1; injection h1 with h1 _; subst h1
  refine ⟨h.1, ?_⟩
  rcases h.2 with ⟨e, _⟩ | ⟨g', cap', cur, e, hb, hh, r⟩
  · cases e
  · injection e with e1 e2 e3; injection e1 with e1; injection e1 with e1 _; subst e1
    exact .inr ⟨g, cap', cur, by rw [e3], hb, by rw [hf.block g hlt hg]; exact hh, r⟩

/-- one half of a quarter -/
def halfP (s : List (BitVec 32)) (a b d n : Nat) : List (BitVec 32) :=
  let s := s.set a (gw s a + gw s b)
  s.set d (rotl (gw s d ^^^ gw s a) n)
def quarterP (s : List (BitVec 32)) (a b c d : Nat) : List (BitVec 32) := halfP (halfP (halfP (halfP s a b d 16) c d b 12) a b d 8) c d b 7

theorem Rotate_any (w : World) (x : BitVec 32) (N : Int) (n : Nat) (hn : (N = 16 ∧ n = 16) ∨ (N = 12 ∧ n = 12) ∨ (N = 8 ∧ n = 8) ∨ (N = 7 ∧ n = 7)) :
    Calls Try.prog 68 #[.int .u32 (wv x), .int .i64 N] w fun e w' => e = .returned (.int .u32 (wv (rotl x n))) ∧ w' = w := by
  have hb := wv_lt x
  rcases hn with ⟨rfl, rfl⟩ | ⟨rfl, rfl⟩ | ⟨rfl, rfl⟩ | ⟨rfl, rfl⟩
  · have e31 : bits .and .u64 16 31 = 16 := rfl
    go_enter Try.func68, Try.ntmps68
    go_wp2
    go_ret
    exact ⟨ret_int (by rw [show wv x * (65536 : Int) % (4294967296 : Int) = wv (x <<< 16) from shl32 x 16, show wv x / (65536 : Int) = wv (x >>> 16) from shr32 x 16]; exact or32 _ _), rfl⟩
  · have e31 : bits .and .u64 12 31 = 12 := rfl
    go_enter Try.func68, Try.ntmps68
    go_wp2
    go_ret
    exact ⟨ret_int (by rw [show wv x * (4096 : Int) % (4294967296 : Int) = wv (x <<< 12) from shl32 x 12, show wv x / (1048576 : Int) = wv (x >>> 20) from shr32 x 20]; exact or32 _ _), rfl⟩
  · have e31 : bits .and .u64 8 31 = 8 := rfl
    go_enter Try.func68, Try.ntmps68
    go_wp2
    go_ret
    exact ⟨ret_int (by rw [show wv x * (256 : Int) % (4294967296 : Int) = wv (x <<< 8) from shl32 x 8, show wv x / (16777216 : Int) = wv (x >>> 24) from shr32 x 24]; exact or32 _ _), rfl⟩
  · have e31 : bits .and .u64 7 31 = 7 := rfl
    go_enter Try.func68, Try.ntmps68
    go_wp2
    go_ret
    exact ⟨ret_int (by rw [show wv x * (128 : Int) % (4294967296 : Int) = wv (x <<< 7) from shl32 x 7, show wv x / (33554432 : Int) = wv (x >>> 25) from shr32 x 25]; exact or32 _ _), rfl⟩

attribute [local go_sem] yld yldUpon_value
set_option maxHeartbeats 1000000 in
theorem half_any (w : World) (T g m c : Nat) (s : List (BitVec 32)) (h : SqB w T g m c s) (a b d : Nat) (ha : a < m) (hb : b < m) (hd : d < m) (N : Int) (n : Nat) (hn : (N = 16 ∧ n = 16) ∨ (N = 12 ∧ n = 12) ∨ (N = 8 ∧ n = 8) ∨ (N = 7 ∧ n = 7)) :
    Calls Try.prog 67 #[.pointer (some ⟨g, a, none⟩), .pointer (some ⟨g, b, none⟩), .pointer (some ⟨g, d, none⟩), .int .i64 N] w fun e w' => e = .returned (.tuple #[]) ∧ SqB w' T g m c (halfP s a b d n) ∧ Fr (fun k => k = g) w w' := by
  have H := Lib.hid h
  have ca := h.cell ha
  have cb := h.cell hb
  have fa := h.frz a
  have hx := add32 (gw s a) (gw s b)
  clear h
  go_enter Try.func67, Try.ntmps67
  go_wp2
  go_region
  have H1 : Hid (SqB (w.setCell ⟨g, a, none⟩ (.int .u32 (wv (gw s a + gw s b)))).drew T g m c (s.set a (gw s a + gw s b))) := (H.out.set a (gw s a + gw s b)).drewN 1
  have hf1 : Hid (Fr (fun k => k = g) w (w.setCell ⟨g, a, none⟩ (.int .u32 (wv (gw s a + gw s b)))).drew) := ((Fr.refl (fun k => k = g) w).setCell (p := ⟨g, a, none⟩) (.inl rfl) _).drewN 1
  clear ca cb fa hx
  go_wp2_with fail
  generalize (w.setCell ⟨g, a, none⟩ (.int .u32 (wv (gw s a + gw s b)))).drew = w1 at H1 hf1 ⊢
  have c2a := H1.out.cell ha
  have c2d := H1.out.cell hd
  have f2d := H1.out.frz d
  have hxx := xor32 (gw (s.set a (gw s a + gw s b)) d) (gw (s.set a (gw s a + gw s b)) a)
  refine wp_calm ?_
  refine wp_region_os (fun i w' => match i with
    | 3 => w'.cell? ⟨g, d, none⟩ = some (.int .u32 (wv (gw (s.set a (gw s a + gw s b)) d)))
    | 6 => w'.cell? ⟨g, a, none⟩ = some (.int .u32 (wv (gw (s.set a (gw s a + gw s b)) a)))
    | _ => True) [3, 6]
    (.move 0 (.move 1 (.move 2 (.take 3 (.move 4 (.move 5 (.take 6 (.move 7 (.move 8 (.run 9 [3, 6] (.move 10 (.run 11 [] .done)))))))))))) (by kernel_rfl) (by kernel_rfl) (fun _ _ _ _ _ h => nomatch h.1) ?_
  iterate 3 (
    refine os_move rfl rfl rfl (Nat.le_of_ble_eq_true rfl) ?_
    apply Exists.intro
    refine ⟨fun w' K hK => ?_, ?_⟩
    (focus
      go_simp
      exact hK))
  refine os_yld c2d rfl rfl rfl (Nat.le_of_ble_eq_true rfl) ?_
  apply Exists.intro
  refine ⟨fun w' hS' K hK => ?_, ?_⟩
  (focus
    have hS2 : (fun w' => w'.cell? ⟨g, d, none⟩ = some (.int .u32 (wv (gw (s.set a (gw s a + gw s b)) d)))) w' := hS'
    clear hS'
    try dsimp only at hS2
    go_simp
    exact hK)
  iterate 2 (
    refine os_move rfl rfl rfl (Nat.le_of_ble_eq_true rfl) ?_
    apply Exists.intro
    refine ⟨fun w' K hK => ?_, ?_⟩
    (focus
      go_simp
      exact hK))
  refine os_yld c2a rfl rfl rfl (Nat.le_of_ble_eq_true rfl) ?_
  apply Exists.intro
  refine ⟨fun w' hS' K hK => ?_, ?_⟩
  (focus
    have hS2 : (fun w' => w'.cell? ⟨g, a, none⟩ = some (.int .u32 (wv (gw (s.set a (gw s a + gw s b)) a)))) w' := hS'
    clear hS'
    try dsimp only at hS2
    go_simp
    exact hK)
  iterate 2 (
    refine os_move rfl rfl rfl (Nat.le_of_ble_eq_true rfl) ?_
    apply Exists.intro
    refine ⟨fun w' K hK => ?_, ?_⟩
    (focus
      go_simp
      exact hK))
  refine os_run rfl rfl (fun K hK => ?_)
  go_wp2_with fail
  refine (Rotate_any _ _ _ _ hn).mono ?_
  rintro e w2 ⟨rfl, rfl⟩
  go_wp2_with fail
  refine ⟨fun _ _ h => h, ?_⟩
  refine os_move rfl rfl rfl (Nat.le_of_ble_eq_true rfl) ?_
  apply Exists.intro
  refine ⟨fun w' K hK => ?_, ?_⟩
  (focus
    go_simp
    exact hK)
  refine os_run rfl rfl (fun K hK => ?_)
  go_wp2_with fail
  refine ⟨fun _ h => (by cases h), ?_⟩
  refine os_done ⟨rfl, ?_⟩
  go_end0
  have H2 := (H1.out.drewN 1).set d (rotl (gw (s.set a (gw s a + gw s b)) d ^^^ gw (s.set a (gw s a + gw s b)) a) n)
  exact ⟨rfl, H2, (hf1.out.drewN 1).setCell (p := ⟨g, d, none⟩) (.inl rfl) _⟩
end Go.Proofs.Ytklclbppdoahjaa
/- A quarter, the rounds. -/
namespace Go.Proofs.Ytklclbppdoahjaa
set_option maxRecDepth 100000
open Go.RowKit
attribute [local go_sem] yld yldUpon_value

theorem halfP_len (s : List (BitVec 32)) (a b d n : Nat) : (halfP s a b d n).length = s.length := by simp [halfP]
theorem quarterP_len (s : List (BitVec 32)) (a b c d : Nat) : (quarterP s a b c d).length = s.length := by simp [quarterP, halfP_len]

set_option maxHeartbeats 1000000 in
theorem quarter_any (w : World) (g m : Nat) (s : List (BitVec 32)) (h : SqB w 91 g 16 m s) (a b c d : Nat) (ha : a < 16) (hb : b < 16) (hc : c < 16) (hd : d < 16) :
    Calls Try.prog 65 #[.pointer (some ⟨g, 0, none⟩), .int .i64 a, .int .i64 b, .int .i64 c, .int .i64 d] w fun e w' => e = .returned (.tuple #[]) ∧ SqB w' 91 g 16 m (quarterP s a b c d) ∧ Fr (fun k => k = g) w w' := by
  have H := Lib.hid h
  have ia : (a : Int) < 16 := by omega
  have ib : (b : Int) < 16 := by omega
  have ic : (c : Int) < 16 := by omega
  have id_ : (d : Int) < 16 := by omega
  clear h
  go_enter Try.func65, Try.ntmps65
  go_wp2_with fail
  refine wp_calm ?_
  refine wp_region_os (fun _ _ => True) [] (.move 0 (.move 1 (.move 2 (.move 3 (.move 4 (.move 5 (.move 6 (.move 7 (.move 8 (.move 9 (.move 10 (.move 11 (.run 12 [] .done))))))))))))) (by kernel_rfl) (by kernel_rfl) (fun _ _ _ _ _ h => nomatch h.1) ?_
  iterate 12 (
    refine os_move rfl rfl rfl (Nat.le_of_ble_eq_true rfl) ?_
    apply Exists.intro
    refine ⟨fun w' K hK => ?_, ?_⟩
    (focus
      go_simp
      exact hK))
  refine os_run rfl rfl (fun K hK => ?_)
  go_wp2_with fail
  refine (half_any _ _ _ _ _ _ (H.out.drewN 1) _ _ _ ha hb hd _ 16 (.inl ⟨rfl, rfl⟩)).mono ?_
  rintro e w1 ⟨rfl, h1, f1⟩
  have H1 := Lib.hid h1; have F1 : Hid (Fr (fun k => k = g) w w1) := ((Fr.refl _ w).drewN 1).trans f1 (fun i _ h => h)
  clear h1 f1
  go_wp2_with fail
  refine ⟨fun _ h => (by cases h), ?_⟩
  refine os_done ⟨rfl, ?_⟩
  go_wp2_with fail
  refine wp_calm ?_
  refine wp_region_os (fun _ _ => True) [] (.move 0 (.move 1 (.move 2 (.move 3 (.move 4 (.move 5 (.move 6 (.move 7 (.move 8 (.move 9 (.move 10 (.move 11 (.run 12 [] .done))))))))))))) (by kernel_rfl) (by kernel_rfl) (fun _ _ _ _ _ h => nomatch h.1) ?_
  iterate 12 (
    refine os_move rfl rfl rfl (Nat.le_of_ble_eq_true rfl) ?_
    apply Exists.intro
    refine ⟨fun w' K hK => ?_, ?_⟩
    (focus
      go_simp
      exact hK))
  refine os_run rfl rfl (fun K hK => ?_)
  go_wp2_with fail
  refine (half_any _ _ _ _ _ _ (H1.out.drewN 1) _ _ _ hc hd hb _ 12 (.inr (.inl ⟨rfl, rfl⟩))).mono ?_
  rintro e w2 ⟨rfl, h1, f1⟩
  have H2 := Lib.hid h1; have F2 : Hid (Fr (fun k => k = g) w w2) := (F1.out.drewN 1).trans f1 (fun i _ h => h)
  clear h1 f1 H1 F1
  go_wp2_with fail
  refine ⟨fun _ h => (by cases h), ?_⟩
  refine os_done ⟨rfl, ?_⟩
  go_wp2_with fail
  refine wp_calm ?_
  refine wp_region_os (fun _ _ => True) [] (.move 0 (.move 1 (.move 2 (.move 3 (.move 4 (.move 5 (.move 6 (.move 7 (.move 8 (.move 9 (.move 10 (.move 11 (.run 12 [] .done))))))))))))) (by kernel_rfl) (by kernel_rfl) (fun _ _ _ _ _ h => nomatch h.1) ?_
  iterate 12 (
    refine os_move rfl rfl rfl (Nat.le_of_ble_eq_true rfl) ?_
    apply Exists.intro
    refine ⟨fun w' K hK => ?_, ?_⟩
    (focus
      go_simp
      exact hK))
  refine os_run rfl rfl (fun K hK => ?_)
  go_wp2_with fail
  refine (half_any _ _ _ _ _ _ (H2.out.drewN 1) _ _ _ ha hb hd _ 8 (.inr (.inr (.inl ⟨rfl, rfl⟩)))).mono ?_
  rintro e w3 ⟨rfl, h1, f1⟩
  have H3 := Lib.hid h1; have F3 : Hid (Fr (fun k => k = g) w w3) := (F2.out.drewN 1).trans f1 (fun i _ h => h)
  clear h1 f1 H2 F2
  go_wp2_with fail
  refine ⟨fun _ h => (by cases h), ?_⟩
  refine os_done ⟨rfl, ?_⟩
  go_wp2_with fail
  refine wp_calm ?_
  refine wp_region_os (fun _ _ => True) [] (.move 0 (.move 1 (.move 2 (.move 3 (.move 4 (.move 5 (.move 6 (.move 7 (.move 8 (.move 9 (.move 10 (.move 11 (.run 12 [] .done))))))))))))) (by kernel_rfl) (by kernel_rfl) (fun _ _ _ _ _ h => nomatch h.1) ?_
  iterate 12 (
    refine os_move rfl rfl rfl (Nat.le_of_ble_eq_true rfl) ?_
    apply Exists.intro
    refine ⟨fun w' K hK => ?_, ?_⟩
    (focus
      go_simp
      exact hK))
  refine os_run rfl rfl (fun K hK => ?_)
  go_wp2_with fail
  refine (half_any _ _ _ _ _ _ (H3.out.drewN 1) _ _ _ hc hd hb _ 7 (.inr (.inr (.inr ⟨rfl, rfl⟩)))).mono ?_
  rintro e w4 ⟨rfl, h1, f1⟩
  have H4 := Lib.hid h1; have F4 : Hid (Fr (fun k => k = g) w w4) := (F3.out.drewN 1).trans f1 (fun i _ h => h)
  clear h1 f1 H3 F3
  go_wp2_with fail
  refine ⟨fun _ h => (by cases h), ?_⟩
  refine os_done ⟨rfl, ?_⟩
  go_end0
  exact ⟨rfl, H4.out, F4.out⟩

theorem quarter_at (w : World) (g m : Nat) (s : List (BitVec 32)) (h : SqB w 91 g 16 m s) (a b c d : Nat) (A B C D : Int) (ha : a < 16) (hb : b < 16) (hc : c < 16) (hd : d < 16) (eA : A = a) (eB : B = b) (eC : C = c) (eD : D = d) :
    Calls Try.prog 65 #[.pointer (some ⟨g, 0, none⟩), .int .i64 A, .int .i64 B, .int .i64 C, .int .i64 D] w fun e w' => e = .returned (.tuple #[]) ∧ SqB w' 91 g 16 m (quarterP s a b c d) ∧ Fr (fun k => k = g) w w' := by
  subst eA eB eC eD
  exact quarter_any w g m s h a b c d ha hb hc hd

/-- the t-th quarter's four places -/
def plA (t : Nat) : Nat := t % 4
def plB (t : Nat) : Nat := 4 + (t % 4 + t / 4 % 2) % 4
def plC (t : Nat) : Nat := 8 + (t % 4 + 2 * (t / 4 % 2)) % 4
def plD (t : Nat) : Nat := 12 + (t % 4 + 3 * (t / 4 % 2)) % 4
theorem pl_at {k q : Nat} (h : q < 4) : plA (4 * k + q) = q ∧ plB (4 * k + q) = 4 + (q + k % 2) % 4 ∧ plC (4 * k + q) = 8 + (q + 2 * (k % 2)) % 4 ∧ plD (4 * k + q) = 12 + (q + 3 * (k % 2)) % 4 := by
  have h1 : (4 * k + q) % 4 = q := by omega
  have h2 : (4 * k + q) / 4 = k := by omega
  simp [plA, plB, plC, plD, h1, h2]
/-- t quarters -/
def turns (s : List (BitVec 32)) : Nat → List (BitVec 32)
  | 0 => s
  | t + 1 => quarterP (turns s t) (plA t) (plB t) (plC t) (plD t)
theorem turns_len (s : List (BitVec 32)) : ∀ t, (turns s t).length = s.length
  | 0 => rfl
  | t + 1 => by rw [turns, quarterP_len, turns_len]

set_option maxHeartbeats 2000000 in
theorem rounds_any (w : World) (g m : Nat) (s : List (BitVec 32)) (h : SqB w 91 g 16 m s) :
    Calls Try.prog 57 #[.pointer (some ⟨g, 0, none⟩)] w fun e w' => e = .returned (.tuple #[]) ∧ SqB w' 91 g 16 m (turns s 80) ∧ Fr (fun k => k = g) w w' := by
  have H := Lib.hid h
  clear h
  go_enter Try.func57, Try.ntmps57
  go_wp2_with fail
  go_loopw [5] (fun i w' => ∃ k : Nat, k ≤ 20 ∧ i = .int .i64 (k : Nat) ∧ Hid (SqB w' 91 g 16 m (turns s (4 * k))) ∧ Hid (Fr (fun k => k = g) w w')) (fun i _ => 20 - (intOf i).toNat)
  case atStart => exact ⟨0, Nat.zero_le _, rfl, H.out, Fr.refl _ _⟩
  case round =>
    obtain ⟨k, hk, rfl, Hk, Fk⟩ := hrel
    by_cases hlt : k < 20
    · have hkI : (k : Int) < 20 := by omega
      go_wp2_with fail
      go_loopw [8] (fun i w' => ∃ q : Nat, q ≤ 4 ∧ i = .int .i64 (q : Nat) ∧ Hid (SqB w' 91 g 16 m (turns s (4 * k + q))) ∧ Hid (Fr (fun k => k = g) w w')) (fun i _ => 4 - (intOf i).toNat)
      case atStart => exact ⟨0, Nat.zero_le _, rfl, Hk.out, Fk.out⟩
      case round =>
        obtain ⟨q, hq, rfl, Hq, Fq⟩ := hrel
        by_cases hlt : q < 4
        · have hqI : (q : Int) < 4 := by omega
          have hk0 : (0 : Int) ≤ (k : Int) := by omega
          have hq0 : (0 : Int) ≤ (q : Int) := by omega
          go_wp2_with fail
          refine (quarter_at _ _ _ _ Hq.out (plA (4 * k + q)) (plB (4 * k + q)) (plC (4 * k + q)) (plD (4 * k + q)) _ _ _ _ (by unfold plA; omega) (by unfold plB; omega) (by unfold plC; omega) (by unfold plD; omega)
            (by rw [(pl_at hlt).1]) (by rw [(pl_at hlt).2.1]; omega) (by rw [(pl_at hlt).2.2.1]; omega) (by rw [(pl_at hlt).2.2.2]; omega)).mono ?_
          rintro e w1 ⟨rfl, h1, f1⟩
          have H1 := Lib.hid h1; have F1 : Hid (Fr (fun k => k = g) w w1) := Fq.out.trans f1 (fun i _ h => h)
          clear h1 f1 hqI hk0 hq0
          go_wp2_with fail
          go_roundw
          case rel => exact ⟨q + 1, by omega, by go_num, H1.out, F1.out⟩
          case measure => simp [intOf]; omega
        · have hqI : decide ((q : Int) < 4) = false := decide_eq_false (by omega)
          have hq4 : q = 4 := by omega
          subst hq4
          go_wp2_with fail
          go_roundw
          case rel => exact ⟨k + 1, by omega, by go_num, Hq.out, Fq.out⟩
          case measure => simp [intOf]; omega
    · have hkI : decide ((k : Int) < 20) = false := decide_eq_false (by omega)
      have hk20 : k = 20 := by omega
      subst hk20
      go_wp2_with fail
      go_end0
      exact ⟨rfl, Hk.out, Fk.out⟩
end Go.Proofs.Ytklclbppdoahjaa
/- Building a struct out of parts that may be long. -/
namespace Go.Proofs.Ytklclbppdoahjaa
set_option maxRecDepth 100000
open Go.RowKit

theorem fold_set : ∀ (cs : List Value) (k : Nat) (pre rest : List Value), cs.length ≤ rest.length →
    (cs.zipIdx k).foldl (fun (a : Array Value) (x : Value × Nat) => a.setIfInBounds (pre.length - k + x.2) x.1) (pre ++ rest).toArray = (pre ++ (cs ++ rest.drop cs.length)).toArray ∨ pre.length < k
  | [], k, pre, rest, _ => by simp
  | c :: cs, k, pre, r0 :: rest, h => by
    rcases Nat.lt_or_ge pre.length k with hk | hk
    · exact .inr hk
    · left
      simp only [List.zipIdx_cons, List.foldl_cons]
      have e1 : (pre ++ r0 :: rest).toArray.setIfInBounds (pre.length - k + k) c = ((pre ++ [c]) ++ rest).toArray := by
        rw [Nat.sub_add_cancel hk, List.setIfInBounds_toArray, List.set_append_right _ _ (Nat.le_refl _), Nat.sub_self]
        simp
      rw [e1]
      have h2 := fold_set cs (k + 1) (pre ++ [c]) rest (by simpa using h)
      have e2 : (pre ++ [c]).length - (k + 1) = pre.length - k := by simp
      rw [e2] at h2
      rcases h2 with h2 | h2
      · rw [h2]; simp
      · simp at h2; omega
  | c :: cs, k, pre, [], h => by simp at h

/-- the places are one behind the other -/
def FillSeq (place : Nat → Option (Nat × Nat)) : List (Nat × Value) → Nat → Prop
  | [], _ => True
  | (i, v) :: r, off => place i = some (off, v.cells.size) ∧ FillSeq place r (off + v.cells.size)
def partCells (l : List (Nat × Value)) : List Value := l.flatMap fun x => x.2.cells.toList

theorem fill_seq (place : Nat → Option (Nat × Nat)) : ∀ (vs : List (Nat × Value)) (pre rest : List Value), FillSeq place vs pre.length → (partCells vs).length = rest.length →
    Instr.fill place (pre ++ rest).toArray vs = some (pre ++ partCells vs).toArray
  | [], pre, rest, _, h => by
    have : rest = [] := List.eq_nil_of_length_eq_zero (by simpa [partCells] using h.symm)
    subst this
    simp [Instr.fill, partCells]
  | (i, v) :: vs, pre, rest, ⟨hp, hr⟩, h => by
    have hl : v.cells.size + (partCells vs).length = rest.length := by simpa [partCells] using h
    have hfold := fold_set v.cells.toList 0 pre rest (by rw [Array.length_toList]; omega)
    have hz : v.cells.zipIdx.foldl (fun cs (x : Value × Nat) => cs.setIfInBounds (pre.length + x.2) x.1) (pre ++ rest).toArray = (pre ++ (v.cells.toList ++ rest.drop v.cells.size)).toArray := by
      rcases hfold with hf | hf
      · rw [← Array.foldl_toList, Array.toList_zipIdx]
        simpa using hf
      · omega
    rw [Instr.fill, hp]
    simp only [ne_eq, not_true_eq_false, decide_false, Bool.false_or, decide_eq_true_eq]
    rw [if_neg (by simp; omega), hz, ← List.append_assoc]
    have h3 := fill_seq place vs (pre ++ v.cells.toList) (rest.drop v.cells.size) (by simpa using hr) (by rw [List.length_drop]; omega)
    rw [h3]
    simp [partCells]

theorem run_places {P : Program} (w : World) : ∀ fs : List Field, (fs.all fun f => (P.info? f.type).isSome) = true →
    (fs.mapM (m := Sem) fun f => Prod.mk f.offset <$> sizeOf f.type).run P w = .ok (fs.map fun f => (f.offset, P.cellsOf f.type)) w
  | [], _ => by simp
  | f :: fs, h => by
    simp only [List.all_cons, Bool.and_eq_true] at h
    obtain ⟨i, hi⟩ := Option.isSome_iff_exists.1 h.1
    have ih := run_places (P := P) w fs h.2
    simp [List.mapM_cons, sizeOf, typeInfo, hi, Program.cellsOf] at ih ⊢
    simp [ih]
theorem run_build_struct {P : Program} (w : World) (t : TypeId) (fs : Array Field) (i : TypeInfo) (z : Value) (pl : Array (Nat × Nat)) (ht : P.underlying t = some (.struct fs)) (hi : P.info? t = some i) (hz : i.zero = some z)
    (hall : (fs.toList.all fun f => (P.info? f.type).isSome) = true) (hpl : (fs.toList.map fun f => (f.offset, P.cellsOf f.type)).toArray = pl) (parts : Array (Nat × Value))
    (hseq : FillSeq (pl[·]?) parts.toList 0) (hlen : (partCells parts.toList).length = z.cells.size) :
    (Instr.build t parts).run P w = .ok (.agg (partCells parts.toList).toArray) w := by
  have h := fill_seq (pl[·]?) parts.toList [] z.cells.toList hseq (by simpa using hlen)
  simp only [List.nil_append, Array.toArray_toList] at h
  have hp := run_places (P := P) w fs.toList hall
  have hp2 : (fs.mapM (m := Sem) fun f => Prod.mk f.offset <$> sizeOf f.type).run P w = .ok pl w := by
    rw [Array.mapM_eq_mapM_toList]
    simp [hp, hpl]
  unfold Instr.build
  simp [zeroValue, typeInfo, hi, hz, run_underlying ht, hp2, h]

theorem wp_build {P : Program} {o : Oper} {a : Act} {w : World} {K : Act → World → Prop} {Q : Exit → Act → World → Prop} (t : TypeId) (parts : Array (Nat × Operand)) (pv : Array (Nat × Value)) (v : Value) (ho : o.op = .build t parts)
    (hpv : (parts.map fun (x : Nat × Operand) => (x.1, a.eval x.2)) = pv) (hrun : (Instr.build t pv).run P w = .ok v w) (h : K (a.put o.dst v) w) : o.wp P a w K Q := by
  unfold Oper.wp execOp
  simp only [ho, hpv, Sem.run_bind, hrun, Result.andThen_ok, Sem.run_pure]
  exact h
/-- a slice of one element, which may be a long struct -/
theorem run_buildSlice_one {P : Program} (w : World) (t e : TypeId) (i : TypeInfo) (z v : Value) (ht : P.underlying t = some (.slice e)) (hi : P.info? e = some i) (hz : i.zero = some z)
    (hv : v.cells.size = i.size) (hs : z.cells.size = i.size) (h0 : 0 < i.size) (h1 : i.size ≤ 16777216) :
    (Instr.buildSlice t 1 #[(0, v)]).run P w = .ok (.slice (some ⟨w.heap.size, 0, none⟩) 1 1) (w.alloc (.cells v.cells e)) := by
  have hf := fill_seq (fun k => some (k * i.size, i.size)) [(0, v)] [] ((Array.range (1 * i.size)).map (z.cells[· % z.cells.size]!)).toList
    (by simp [FillSeq, hv]) (by simp [partCells, hv])
  have hf2 : Instr.fill (fun k => some (k * i.size, i.size)) (Array.map (fun x => z.cells[x % i.size]!) (Array.range i.size)) [(0, v)] = some v.cells := by
    simp only [List.nil_append, Array.toArray_toList, Nat.one_mul, hs] at hf
    rw [hf]
    simp [partCells]
  unfold Instr.buildSlice
  simp [run_underlying ht, sizeOf, typeInfo, hi, zeroValue, hz, hs, show ¬ 16777216 < i.size by omega, show ¬ i.size = 0 by omega, hf2, newRow]
theorem wp_buildSlice_one {P : Program} {o : Oper} {a : Act} {w : World} {K : Act → World → Prop} {Q : Exit → Act → World → Prop} (t e : TypeId) (x : Operand) (i : TypeInfo) (z v : Value) (ho : o.op = .buildSlice t 1 #[(0, x)])
    (hx : a.eval x = v) (ht : P.underlying t = some (.slice e)) (hi : P.info? e = some i) (hz : i.zero = some z)
    (hv : v.cells.size = i.size) (hs : z.cells.size = i.size) (h0 : 0 < i.size) (h1 : i.size ≤ 16777216)
    (h : K (a.put o.dst (.slice (some ⟨w.heap.size, 0, none⟩) 1 1)) (w.alloc (.cells v.cells e))) : o.wp P a w K Q := by
  have hrun := run_buildSlice_one (P := P) w t e i z v ht hi hz hv hs h0 h1
  unfold Oper.wp execOp
  simp only [ho, List.map_toArray, List.map_cons, List.map_nil, hx, Sem.run_bind, hrun, Result.andThen_ok, Sem.run_pure]
  exact h
theorem Rd.of_block {w : World} {g : Nat} {cs : Array Value} {t : TypeId} {fr : Nat × Nat} (h : w.heap[g]? = some (.cells cs t fr)) : Rd w (some ⟨g, 0, none⟩) cs.toList := by
  intro j x hx
  refine ⟨_, rfl, ?_⟩
  rw [addr_add_zero, Nat.zero_add, cell_of_row w g j cs t fr h]
  simpa using hx
end Go.Proofs.Ytklclbppdoahjaa
/- Arrays of bytes held against one another; whole variables of long types. -/
namespace Go.Proofs.Ytklclbppdoahjaa
set_option maxRecDepth 100000
open Go.RowKit

theorem run_part_byte (w : World) (l : List UInt8) (k : Nat) (h : k < l.length) : (part 5 (bs l).toArray (k * 1)).run Try.prog w = .ok (bv l[k]) w := by
  have e : (bs l).toArray[k * 1]? = some (bv l[k]) := by
    rw [Nat.mul_one]; simpa using bs_get l k h
  have hu : (isAgg 5).run Try.prog w = .ok false w := by
    unfold isAgg
    simp [run_underlying Try.underlying5]
  unfold part
  simp only [Sem.run_bind, hu, Result.andThen_ok, e]
  simp
theorem run_eqItems_bytes (w : World) (d : Nat) (l l' : List UInt8) (hl : l.length = l'.length) : ∀ (m k : Nat), k + m = l.length →
    (Op.eqItems (d + 1) 5 1 (bs l).toArray (bs l').toArray (List.range' k m)).run Try.prog w = .ok (l.drop k == l'.drop k) w
  | 0, k, h => by
    rw [List.drop_of_length_le (by omega), List.drop_of_length_le (by omega)]
    simp [Op.eqItems]
  | m + 1, k, h => by
    have hk : k < l.length := by omega
    have hk' : k < l'.length := by omega
    have h1 := run_part_byte w l k hk
    have h2 := run_part_byte w l' k hk'
    have h3 : (Op.equalIn (d + 1) 5 (bv l[k]) (bv l'[k])).run Try.prog w = .ok (l[k] == l'[k]) w := by
      unfold bv
      rw [run_equalIn_int w d 5 .u8 .u8 _ _ Try.underlying5, byte_eq]
    have ih := run_eqItems_bytes w d l l' hl m (k + 1) (by omega)
    rw [List.range'_succ]
    simp only [Op.eqItems, Sem.run_bind, h1, h2, h3, Result.andThen_ok]
    rw [List.drop_eq_getElem_cons hk, List.drop_eq_getElem_cons hk', List.cons_beq_cons]
    cases hb : l[k] == l'[k]
    · simp
    · simpa using ih
theorem run_eq_arr (w : World) (T n : Nat) (l l' : List UInt8) (hu : Try.prog.underlying T = some (.array n 5)) (h : l.length = n) (h' : l'.length = n) :
    (Op.equal T (.agg (bs l).toArray) (.agg (bs l').toArray)).run Try.prog w = .ok (l == l') w := by
  obtain ⟨i0, hi, hz0, hz1, hz2⟩ := info_parts Try.infoB
  have hc : Try.prog.cellsOf 5 = 1 := by simp [Program.cellsOf, hi, hz1]
  unfold Op.equal Op.maxDepth
  rw [run_equalIn_array w 9999 _ _ hu hi, hc, List.range_eq_range']
  have := run_eqItems_bytes w 9998 l l' (by omega) n 0 (by omega)
  simpa using this
theorem wp_neq_arr {o : Oper} {a : Act} {w : World} {K : Act → World → Prop} {Q : Exit → Act → World → Prop} (T : TypeId) (x y : Operand) (T' : TypeId) (ho : o.op = .binOp .neq T x y T') (n : Nat) (l l' : List UInt8)
    (hx : a.eval x = .agg (bs l).toArray) (hy : a.eval y = .agg (bs l').toArray) (hu : Try.prog.underlying T = some (.array n 5)) (hg : Try.prog.eqGuardType Try.prog.depth T = false)
    (h : l.length = n) (h' : l'.length = n) (c : Bool) (hc : (l != l') = c) (hk : K (a.put o.dst (.bool c)) w) : o.wp Try.prog a w K Q := by
  have h1 := run_eq_arr w T n l l' hu h h'
  have h2 := run_eqGuard_agg (P := Try.prog) w .neq T x y (bs l).toArray (bs l').toArray hg
  subst hc
  unfold Oper.wp execOp
  simp only [ho, hx, hy, Sem.run_bind, h2, Result.andThen_ok, binOp, h1, Sem.run_pure]
  exact hk
theorem wp_eql_arr {o : Oper} {a : Act} {w : World} {K : Act → World → Prop} {Q : Exit → Act → World → Prop} (T : TypeId) (x y : Operand) (T' : TypeId) (ho : o.op = .binOp .eql T x y T') (n : Nat) (l l' : List UInt8)
    (hx : a.eval x = .agg (bs l).toArray) (hy : a.eval y = .agg (bs l').toArray) (hu : Try.prog.underlying T = some (.array n 5)) (hg : Try.prog.eqGuardType Try.prog.depth T = false)
    (h : l.length = n) (h' : l'.length = n) (c : Bool) (hc : (l == l') = c) (hk : K (a.put o.dst (.bool c)) w) : o.wp Try.prog a w K Q := by
  have h1 := run_eq_arr w T n l l' hu h h'
  have h2 := run_eqGuard_agg (P := Try.prog) w .eql T x y (bs l).toArray (bs l').toArray hg
  subst hc
  unfold Oper.wp execOp
  simp only [ho, hx, hy, Sem.run_bind, h2, Result.andThen_ok, binOp, h1, Sem.run_pure]
  exact hk
/-- a new variable of a long type; the world behind it a letter -/
theorem wp_alloc_abs {P : Program} {o : Oper} {a : Act} {w : World} {K : Act → World → Prop} {Q : Exit → Act → World → Prop} (T : TypeId) (ho : o.op = .alloc T) (i : TypeInfo) (z : Value) (hi : P.info? T = some i) (hz : i.zero = some z)
    (hk : ∀ g w', Hid (g = w.heap.size ∧ w'.heap.size = w.heap.size + 1) → Hid (w'.heap[g]? = some (.cells z.cells T (0, 0))) → Below w.heap.size w w' → K (a.put o.dst (.pointer (some ⟨g, 0, none⟩))) w') : o.wp P a w K Q := by
  unfold Oper.wp execOp
  simp [ho, Instr.alloc, zeroValue, typeInfo, hi, hz, newVar, newRow]
  exact hk w.heap.size (w.alloc (.cells z.cells T)) (Lib.hid ⟨rfl, by simp⟩) (Lib.hid (heap_alloc_new w _)) ((Below.refl _ _).alloc (Nat.le_refl _) _)
/-- a store into a whole block -/
theorem wp_store_abs {P : Program} {o : Oper} {a : Act} {w : World} {K : Act → World → Prop} {Q : Exit → Act → World → Prop} (T : TypeId) (x y : Operand) (ho : o.op = .store T x y) (g : Nat) (t : TypeId) (c c' : Array Value)
    (hx : a.eval x = .pointer (some ⟨g, 0, none⟩)) (hy : a.eval y = .agg c') (hg : w.heap[g]? = some (.cells c t (0, 0))) (hi : (P.info? T).map (·.size) = some c'.size) (hc : c.size = c'.size) (h1 : c'.all (·.oneCell') = true)
    (hk : ∀ w', Hid (w'.heap[g]? = some (.cells c' t (0, 0))) → w.grownBy w' (some g) → K (a.put o.dst undef) w') : o.wp P a w K Q := by
  have := run_storeVar_row (P := P) w g t T c c' hg hi hc h1
  unfold Oper.wp execOp
  simp only [ho, hx, hy, Sem.run_bind, Instr.storeAt, Instr.sureAddr, Sem.run_pure, this, Result.andThen_ok]
  exact hk _ (Lib.hid (setRow_heap w g c c' t _ hg)) ⟨rfl, rfl, rfl, by simp, fun k _ hk => setRow_other w g k _ (fun e => hk (by rw [e]))⟩

/-! The same at a list of operations, guarded or not. -/
section
variable {P : Program} {ops : Array Oper} {rest : List Oper} {o : Oper} {a : Act} {w : World} {Q : Exit → Act → World → Prop}
theorem lst_load_mid (T : TypeId) (x : Operand) (ho : o.op = .load T x) (b off : Nat) (hx : a.eval x = .pointer (some ⟨b, off, none⟩)) (cs : List Value) (d : TypeDesc) (hc : w.rangeAt b off cs)
    (hu : P.underlying T = some d) (hd : d.isRow = true) (hi : (P.info? T).map (·.size) = some cs.length) (hw : Region.wanted o (yielded ops a.tmps) = true)
    (h : wpList P ops Q rest (a.put o.dst (.agg cs.toArray)) w) : wpList P ops Q (o :: rest) a w :=
  BigFrame.wpList_want hw fun _ hK => wp_load_mid T x ho b off hx cs d hc hu hd hi (hK _ _ h)
theorem lst_alloc_abs (T : TypeId) (ho : o.op = .alloc T) (i : TypeInfo) (z : Value) (hi : P.info? T = some i) (hz : i.zero = some z) (hw : Region.wanted o (yielded ops a.tmps) = true)
    (hk : ∀ g w', Hid (g = w.heap.size ∧ w'.heap.size = w.heap.size + 1) → Hid (w'.heap[g]? = some (.cells z.cells T (0, 0))) → Below w.heap.size w w' → wpList P ops Q rest (a.put o.dst (.pointer (some ⟨g, 0, none⟩))) w') : wpList P ops Q (o :: rest) a w :=
  BigFrame.wpList_want hw fun _ hK => wp_alloc_abs T ho i z hi hz fun g w' h1 h2 h3 => hK _ _ (hk g w' h1 h2 h3)
theorem lst_store_abs (T : TypeId) (x y : Operand) (ho : o.op = .store T x y) (g : Nat) (t : TypeId) (c c' : Array Value)
    (hx : a.eval x = .pointer (some ⟨g, 0, none⟩)) (hy : a.eval y = .agg c') (hg : w.heap[g]? = some (.cells c t (0, 0))) (hi : (P.info? T).map (·.size) = some c'.size) (hc : c.size = c'.size) (h1 : c'.all (·.oneCell') = true)
    (hw : Region.wanted o (yielded ops a.tmps) = true)
    (hk : ∀ w', Hid (w'.heap[g]? = some (.cells c' t (0, 0))) → w.grownBy w' (some g) → wpList P ops Q rest (a.put o.dst undef) w') : wpList P ops Q (o :: rest) a w :=
  BigFrame.wpList_want hw fun _ hK => wp_store_abs T x y ho g t c c' hx hy hg hi hc h1 fun w' h2 h3 => hK _ _ (hk w' h2 h3)
end
theorem lst_neq_arr {ops : Array Oper} {rest : List Oper} {o : Oper} {a : Act} {w : World} {Q : Exit → Act → World → Prop} (T : TypeId) (x y : Operand) (T' : TypeId) (ho : o.op = .binOp .neq T x y T') (n : Nat) (l l' : List UInt8)
    (hx : a.eval x = .agg (bs l).toArray) (hy : a.eval y = .agg (bs l').toArray) (hu : Try.prog.underlying T = some (.array n 5)) (hg : Try.prog.eqGuardType Try.prog.depth T = false)
    (h : l.length = n) (h' : l'.length = n) (c : Bool) (hc : (l != l') = c) (hw : Region.wanted o (yielded ops a.tmps) = true) (hk : wpList Try.prog ops Q rest (a.put o.dst (.bool c)) w) : wpList Try.prog ops Q (o :: rest) a w :=
  BigFrame.wpList_want hw fun _ hK => wp_neq_arr T x y T' ho n l l' hx hy hu hg h h' c hc (hK _ _ hk)
theorem lst_eql_arr {ops : Array Oper} {rest : List Oper} {o : Oper} {a : Act} {w : World} {Q : Exit → Act → World → Prop} (T : TypeId) (x y : Operand) (T' : TypeId) (ho : o.op = .binOp .eql T x y T') (n : Nat) (l l' : List UInt8)
    (hx : a.eval x = .agg (bs l).toArray) (hy : a.eval y = .agg (bs l').toArray) (hu : Try.prog.underlying T = some (.array n 5)) (hg : Try.prog.eqGuardType Try.prog.depth T = false)
    (h : l.length = n) (h' : l'.length = n) (c : Bool) (hc : (l == l') = c) (hw : Region.wanted o (yielded ops a.tmps) = true) (hk : wpList Try.prog ops Q rest (a.put o.dst (.bool c)) w) : wpList Try.prog ops Q (o :: rest) a w :=
  BigFrame.wpList_want hw fun _ hK => wp_eql_arr T x y T' ho n l l' hx hy hu hg h h' c hc (hK _ _ hk)
theorem lst_build {P : Program} {ops : Array Oper} {rest : List Oper} {o : Oper} {a : Act} {w : World} {Q : Exit → Act → World → Prop} (t : TypeId) (parts : Array (Nat × Operand)) (pv : Array (Nat × Value)) (v : Value) (ho : o.op = .build t parts)
    (hrun : (Instr.build t pv).run P w = .ok v w) (hpv : (parts.map fun (x : Nat × Operand) => (x.1, a.eval x.2)) = pv) (hw : Region.wanted o (yielded ops a.tmps) = true) (h : wpList P ops Q rest (a.put o.dst v) w) : wpList P ops Q (o :: rest) a w :=
  BigFrame.wpList_want hw fun _ hK => wp_build t parts pv v ho hpv hrun (hK _ _ h)
theorem lst_buildSlice_one {P : Program} {ops : Array Oper} {rest : List Oper} {o : Oper} {a : Act} {w : World} {Q : Exit → Act → World → Prop} (t e : TypeId) (x : Operand) (i : TypeInfo) (z v : Value) (ho : o.op = .buildSlice t 1 #[(0, x)])
    (hx : a.eval x = v) (ht : P.underlying t = some (.slice e)) (hi : P.info? e = some i) (hz : i.zero = some z)
    (hv : v.cells.size = i.size) (hs : z.cells.size = i.size) (h0 : 0 < i.size) (h1 : i.size ≤ 16777216) (hw : Region.wanted o (yielded ops a.tmps) = true)
    (h : wpList P ops Q rest (a.put o.dst (.slice (some ⟨w.heap.size, 0, none⟩) 1 1)) (w.alloc (.cells v.cells e))) : wpList P ops Q (o :: rest) a w :=
  BigFrame.wpList_want hw fun _ hK => wp_buildSlice_one t e x i z v ho hx ht hi hz hv hs h0 h1 (hK _ _ h)
theorem Sl.of_block {w : World} {g : Nat} {l : List UInt8} {cs : Array Value} {t : TypeId} {fr : Nat × Nat} (h : w.heap[g]? = some (.cells cs t fr)) (hc : cs = (bs l).toArray) (n : Nat) (hn : l.length = n) : Sl w (fun k => k = g) (some ⟨g, 0, none⟩) n n l :=
  ⟨hn, Nat.le_refl _, (fun e => by cases e), (fun ad e _ => by injection e with e; subst e; rfl), by
    have := Rd.of_block h
    rw [hc] at this; simpa using this⟩
end Go.Proofs.Ytklclbppdoahjaa
/- Writing lists over, what is owned staying owned. -/
namespace Go.Proofs.Ytklclbppdoahjaa
set_option maxRecDepth 100000
open Go.RowKit

/-- append of bytes, guarded -/
theorem append_bytes_g {w : World} {ops : Array Oper} {rest : List Oper} {o : Oper} {a : Act} {Q : Exit → Act → World → Prop} (s x : Operand)
    (ho : o.op = .call { callee := .builtin .append, args := #[s, x], argTypes := #[26, 26] })
    (base : Nat) (A : Option Addr) (n c : Nat) (l : List UInt8) (hs : a.eval s = .slice A n c) (hown : w.ownsRow base 5 1 (.slice A n c) n (bs l))
    (A2 : Option Addr) (m c2 : Nat) (l2 : List UInt8) (hx : a.eval x = .slice A2 m c2) (hl : l2.length = m) (hr : Rd w A2 (bs l2))
    (hb : n + m ≤ 140737488355328) (hbase : base ≤ w.heap.size) (hw : Region.wanted o (yielded ops a.tmps) = true)
    (h : ∀ A' c' w', w'.ownsRow base 5 1 (.slice A' (n + m) c') (n + m) (bs (l ++ l2)) → w.grownBy w' (Value.slice A n c).ownBlock →
      ((Value.slice A' (n + m) c').ownBlock = (Value.slice A n c).ownBlock ∨ (Value.slice A' (n + m) c').ownBlock = some w.heap.size) → wpList Try.prog ops Q rest (a.put o.dst (.slice A' (n + m) c')) w') : wpList Try.prog ops Q (o :: rest) a w :=
  BigFrame.wpList_want hw fun _ hK => wp_append_bytes s x ho base A n c l hs hown A2 m c2 l2 hx hl hr hb hbase fun A' c' w' h1 h2 h3 => hK _ _ (h A' c' w' h1 h2 h3)
/-- whatever is owned is owned still, whatever it holds -/
def KeepOwn (w w' : World) : Prop := ∀ base e size v n, (∃ xs, w.ownsRow base e size v n xs) → ∃ ys, w'.ownsRow base e size v n ys
theorem KeepOwn.refl (w : World) : KeepOwn w w := fun _ _ _ _ _ h => h
theorem KeepOwn.trans {a b c : World} (h : KeepOwn a b) (k : KeepOwn b c) : KeepOwn a c := fun _ _ _ _ _ x => k _ _ _ _ _ (h _ _ _ _ _ x)
theorem KeepOwn.setCell (w : World) (g o : Nat) (u : Value) : KeepOwn w (w.setCell ⟨g, o, none⟩ u) := by
  rintro base e size v n ⟨xs, h⟩
  by_cases hv : v.ownBlock = some g
  · rcases h.2 with ⟨rfl, _⟩ | ⟨g', cap, cur, rfl, _⟩
    · cases hv
    · obtain rfl : g' = g := by simpa [Value.ownBlock] using hv
      exact ⟨_, (h.stored o u).1⟩
  · exact ⟨xs, ownsRow_setCell_other h hv u⟩
theorem KeepOwn.below {w w' : World} (h : Below w.heap.size w w') : KeepOwn w w' := by
  rintro base e size v n ⟨xs, hx⟩
  refine ⟨xs, hx.1, ?_⟩
  rcases hx.2 with hn | ⟨g, cap, cur, rfl, hb, hgg, rest⟩
  · exact .inl hn
  · exact .inr ⟨g, cap, cur, rfl, hb, by rw [h.block g (Array.getElem?_eq_some_iff.1 hgg).1]; exact hgg, rest⟩
theorem KeepOwn.drewN {w w' : World} (h : KeepOwn w w') (n : Nat) : KeepOwn w (w'.drewN n) := h

set_option maxHeartbeats 400000 in
theorem SpoilBytes_keep (base : Nat) (A : Option Addr) (n c m : Nat) (xs : List Value) (w : World) (h : w.ownsRow base 5 1 (.slice A m c) m xs) (hm : n ≤ m) (hl : m ≤ 140737488355328) :
    Calls Try.prog 15 #[.slice A n c] w fun e w' => e = .returned (.tuple #[]) ∧ w.grownBy w' (Value.ownBlock (.slice A m c)) ∧ KeepOwn w w' := by
  have H := Lib.hid h; clear h
  go_enter Try.func15, Try.ntmps15
  go_wp2
  go_loopw [2] (fun i wr => ∃ k : Nat, k ≤ n ∧ i = .int .i64 (k : Nat) ∧ Hid (∃ ys, wr.ownsRow base 5 1 (.slice A m c) m ys) ∧ Hid (w.grownBy wr (Value.ownBlock (.slice A m c))) ∧ Hid (KeepOwn w wr)) (fun i _ => n - (intOf i).toNat)
  case atStart => exact ⟨0, by omega, rfl, ⟨_, H.out⟩, World.grownBy.refl _ _, KeepOwn.refl _⟩
  case round =>
    obtain ⟨k, hk, rfl, Hex, Hg, Hko⟩ := hrel
    obtain ⟨ys, hown⟩ := Hex.out
    by_cases hlt : k < n
    · obtain ⟨g, cap, hv, _, _⟩ := hown.form (by omega)
      injection hv with hA1 _ hc1
      subst hA1 hc1
      have hkI : (0 : Int) ≤ (k : Int) := by omega
      have hknI : (k : Int) < (n : Int) := by omega
      have hyl : k < ys.length := by have := hown.1; omega
      have hcell : wr.cell? ⟨g, k, none⟩ = some ys[k] := by rw [hown.cellAt k (by omega)]; exact List.getElem?_eq_getElem hyl
      have hfz := hown.frozenAt k
      go_wp2_with (go_at_call 24; refine (mark_any _ _ (by omega) (by omega)).mono ?_; rintro e w' ⟨rfl, rfl⟩)
      obtain ⟨s1, s2⟩ := hown.stored k (.int .u8 ((201 + 7 * ((k : Int) + 7)) % 256))
      go_roundw
      case rel => exact ⟨k + 1, by omega, by go_num, ⟨_, s1⟩, grown_trans_same Hg.out s2, Hko.out.trans (KeepOwn.setCell _ _ _ _)⟩
      case measure => simp [intOf]; omega
    · go_wp2
      go_end0
      exact ⟨rfl, Hg.out, Hko.out⟩
end Go.Proofs.Ytklclbppdoahjaa
/- Words for regions printed by inst.py's @region: the world that is held while a region draws; footprints by intervals. -/
namespace Go.Proofs.Ytklclbppdoahjaa
set_option maxRecDepth 100000
open Go.RowKit

theorem Below.tr {a b c : World} (h : Below a.heap.size a b) (k : Below b.heap.size b c) : Below a.heap.size a c := h.trans (k.mono h.size)
theorem Below.undr {w w' : World} (h : Below w.drew.heap.size w.drew w') : Below w.heap.size w w' := ⟨h.os, h.tape, h.output, h.size, h.block⟩
theorem Below.dr {w w' : World} (h : Below w.heap.size w w') : Below w.drew.heap.size w.drew w' := ⟨h.os, h.tape, h.output, h.size, h.block⟩
theorem Below.dn {w w' : World} {n : Nat} (h : Below (w.drewN n).heap.size (w.drewN n) w') : Below w.heap.size w w' := ⟨h.os, h.tape, h.output, h.size, h.block⟩
theorem Below.al (w : World) (o : Obj) : Below w.heap.size w (w.alloc o) := (Below.refl _ _).alloc (Nat.le_refl _) o
theorem Below.drN (w : World) (n : Nat) : Below w.heap.size w (w.drewN n) := below_drewN (Below.refl _ _) n
theorem Below.drd (w : World) (n : Nat) : Below w.drew.heap.size w.drew (w.drewN n) := ⟨rfl, rfl, rfl, Nat.le_refl _, fun _ _ => rfl⟩
theorem Below.dnn (w : World) (m n : Nat) : Below (w.drewN m).heap.size (w.drewN m) (w.drewN n) := ⟨rfl, rfl, rfl, Nat.le_refl _, fun _ _ => rfl⟩
theorem Below.dr1 (w : World) : Below w.heap.size w w.drew := ⟨rfl, rfl, rfl, Nat.le_refl _, fun _ _ => rfl⟩
theorem bcellB {W w : World} (h : Below W.heap.size W w) : (∀ p : Addr, p.block < W.heap.size → w.cell? p = W.cell? p) ∧ (∀ p : Addr, p.block < W.heap.size → w.frozen? p = W.frozen? p) :=
  ⟨fun _ hp => h.cell hp, fun _ hp => h.frozen hp⟩
theorem bcellM {M : Nat → Prop} {W w : World} (h : Fr M W w) : (∀ p : Addr, p.block < W.heap.size → ¬ M p.block → w.cell? p = W.cell? p) ∧ (∀ p : Addr, p.block < W.heap.size → ¬ M p.block → w.frozen? p = W.frozen? p) :=
  ⟨fun _ hp hm => World.cell?_of_block (h.block _ hp hm), fun _ hp hm => World.frozen?_of_block (h.block _ hp hm)⟩
theorem Fr.tr {M : Nat → Prop} {a b c : World} (h : Fr M a b) (k : Fr M b c) : Fr M a c := h.trans k (fun _ _ e => e)
theorem Fr.undr {M : Nat → Prop} {w w' : World} (h : Fr M w.drew w') : Fr M w w' := ⟨h.os, h.tape, h.output, h.size, h.block⟩
theorem Fr.ofB {M : Nat → Prop} {a b : World} (h : Below a.heap.size a b) : Fr M a b := Fr.of_below h
theorem rangeAt_fr {w w' : World} {g o : Nat} {cs : List Value} {M : Nat → Prop} (h : w.rangeAt g o cs) (hf : Fr M w w') (hM : ¬ M g) (hlt : g < w.heap.size) : w'.rangeAt g o cs := fun j v hv => by
  rw [World.cell?_of_block (w := w) (hf.block g hlt hM)]; exact h j v hv
theorem rangeAt_bel {w w' : World} {g o : Nat} {cs : List Value} (h : w.rangeAt g o cs) (hb : Below w.heap.size w w') (hlt : g < w.heap.size) : w'.rangeAt g o cs := rangeAt_fr h (Fr.of_below (M := NoB) hb) id hlt
theorem range_dr {w : World} {g o : Nat} {cs : List Value} (h : w.rangeAt g o cs) : w.drew.rangeAt g o cs := h
theorem block_lt_of {w : World} {ad : Addr} {v : Value} (h : w.cell? ad = some v) : ad.block < w.heap.size := World.block_lt_of_cell? _ _ h
theorem cell_fr {w w' : World} {ad : Addr} {v : Value} {M : Nat → Prop} (h : w.cell? ad = some v) (hf : Fr M w w') (hM : ¬ M ad.block) : w'.cell? ad = some v := by
  rw [World.cell?_of_block (w := w) (hf.block _ (block_lt_of h) hM)]; exact h
theorem cell_bel {w w' : World} {ad : Addr} {v : Value} (h : w.cell? ad = some v) (hb : Below w.heap.size w w') : w'.cell? ad = some v := cell_fr h (Fr.of_below (M := NoB) hb) id
theorem heap_bel {w w' : World} {g : Nat} {o : Obj} (h : w.heap[g]? = some o) (hb : Below w.heap.size w w') : w'.heap[g]? = some o := by
  rw [hb.block g (Array.getElem?_eq_some_iff.1 h).1]; exact h

theorem range_block {w : World} {g : Nat} {cs : List Value} {T : Nat} {fr : Nat × Nat} (h : w.heap[g]? = some (.cells cs.toArray T fr)) : w.rangeAt g 0 cs := by
  intro j v hv
  rw [Nat.zero_add, cell_of_row w g j _ _ _ h]; simpa using hv

/-- blocks from lo on, below hi -/
abbrev Iv (lo hi : Nat) : Nat → Prop := fun k => lo ≤ k ∧ k < hi
theorem Sl.bel {w w' : World} {lo hi : Nat} {A : Option Addr} {n c : Nat} {l : List UInt8} (h : Sl w (Iv lo hi) A n c l) (hb : Below w.heap.size w w') (hh : hi ≤ w.heap.size) : Sl w' (Iv lo hi) A n c l :=
  h.fr (Fr.of_below (M := NoB) hb) (fun _ hk => ⟨Nat.lt_of_lt_of_le hk.2 hh, id⟩)
theorem Sl.belF {w w' : World} {F : Nat → Prop} {A : Option Addr} {n c : Nat} {l : List UInt8} (h : Sl w F A n c l) (hb : Below w.heap.size w w') (hF : ∀ k, F k → k < w.heap.size) : Sl w' F A n c l :=
  h.fr (Fr.of_below (M := NoB) hb) (fun _ hk => ⟨hF _ hk, id⟩)
theorem Sl.off {w w' : World} {lo hi a b : Nat} {A : Option Addr} {n c : Nat} {l : List UInt8} (h : Sl w (Iv lo hi) A n c l) (hf : Fr (Iv a b) w w') (hh : hi ≤ w.heap.size) (hd : hi ≤ a ∨ b ≤ lo) : Sl w' (Iv lo hi) A n c l :=
  h.fr hf (fun k hk => ⟨Nat.lt_of_lt_of_le hk.2 hh, fun e => by have := hk.1; have := hk.2; have := e.1; have := e.2; omega⟩)
theorem Sl.own_ {w w' : World} {A : Option Addr} {n c : Nat} {l : List UInt8} (h : w'.ownsRow w.heap.size 5 1 (.slice A n c) n (bs l)) : Sl w' (Iv w.heap.size w'.heap.size) A n c l :=
  (Sl.of_own h).mono (fun _ hk => ⟨hk.1, hk.2.1⟩)
theorem Sl.old {w : World} {A : Option Addr} {n c : Nat} {l : List UInt8} (h : Sl w (Old w) A n c l) : Sl w (Iv 0 w.heap.size) A n c l := h.mono (fun _ hk => ⟨Nat.zero_le _, hk⟩)
theorem Sl.dr {w : World} {F : Nat → Prop} {A : Option Addr} {n c : Nat} {l : List UInt8} (h : Sl w F A n c l) (k : Nat) : Sl (w.drewN k) F A n c l := ⟨h.len, h.cap, h.nil, h.foot, h.rd⟩

section
variable {P : Program} {ops : Array Oper} {Q : Exit → Act → World → Prop} {S : Nat → World → Prop}
/-- one that is guarded and not wanted -/
theorem os_skip {i d : Nat} {r : OS} {o : Oper} {a : Act} {w : World} (ho : ops.toList[i]? = some o) (hw : Region.wanted o (yielded ops a.tmps) = false) (hd : o.dst = some d)
    (h : ∃ a1, a.put (some d) undef = a1 ∧ wpOS P ops Q S r a1 w) : wpOS P ops Q S (.move i r) a w := by
  obtain ⟨a1, ha, h⟩ := h
  exact ⟨o, undef, by simpa using ho, .inr ⟨hw, rfl⟩, by rw [hd, ha]; exact h⟩
/-- a long load taken first in a region that draws -/
theorem os_load_mid {i d : Nat} {r : OS} {o : Oper} {a : Act} {w : World} (T : TypeId) (x : Operand) (b off : Nat) (cs : List Value) (D : TypeDesc)
    (hS : S i w) (ho : ops.toList[i]? = some o) (hw : Region.wanted o (yielded ops a.tmps) = true) (hop : o.op = .load T x) (hd : o.dst = some d) (hx : a.eval x = .pointer (some ⟨b, off, none⟩))
    (hu : P.underlying T = some D) (hrow : D.isRow = true) (hi : (P.info? T).map (·.size) = some cs.length) (hr : ∀ w', S i w' → w'.rangeAt b off cs)
    (h : ∃ a1, a.put (some d) (.agg cs.toArray) = a1 ∧ wpOS P ops Q S r a1 w) : wpOS P ops Q S (.take i r) a w := by
  obtain ⟨a1, ha, h⟩ := h
  refine ⟨hS, o, .agg cs.toArray, by simpa using ho, .inl ⟨hw, fun w' hS' => ?_⟩, by rw [hd, ha]; exact h⟩
  unfold execOp
  simp only [hop, hx, Instr.loadAt, Instr.sureAddr, Sem.run_bind, Sem.run_pure, Result.andThen_ok, run_loadVar_mid w' b off T cs D (hr w' hS') hu hrow hi]
end
end Go.Proofs.Ytklclbppdoahjaa
/- Bytes of their own in a block. -/
namespace Go.Proofs.Ytklclbppdoahjaa
set_option maxRecDepth 100000
open Go.RowKit
theorem bs_set (l : List UInt8) (j : Nat) (b : UInt8) : (bs l).set j (bv b) = bs (l.set j b) := by simp [bs, List.map_set]
/-- bytes of its own in a block -/
def ByB (w : World) (T g n : Nat) (l : List UInt8) : Prop := w.ownsRow g T 1 (.slice (some ⟨g, 0, none⟩) n n) n (bs l)
theorem ByB.len {w : World} {T g n : Nat} {l : List UInt8} (h : ByB w T g n l) : l.length = n := by
  have := h.1; rw [bs_length] at this; omega
theorem ByB.set {w : World} {T g n : Nat} {l : List UInt8} (h : ByB w T g n l) (j : Nat) (b : UInt8) : ByB (w.setCell ⟨g, j, none⟩ (bv b)) T g n (l.set j b) := by
  have := (World.ownsRow.stored h j (bv b)).1
  rw [bs_set] at this; exact this
theorem ByB.cell {w : World} {T g n : Nat} {l : List UInt8} (h : ByB w T g n l) {i : Nat} (hi : i < l.length) : w.cell? ⟨g, i, none⟩ = some (bv l[i]) := by
  have hl := h.len
  have := World.ownsRow.cellAt h i (by omega)
  rw [this, bs_get l i hi]
theorem ByB.fr {w w' : World} {T g n : Nat} {l : List UInt8} (h : ByB w T g n l) {M : Nat → Prop} (hf : Fr M w w') (hg : ¬ M g) (hn : 0 < n) : ByB w' T g n l := by
  obtain ⟨g', cap, hv, _, hlt⟩ := World.ownsRow.form h hn
  injection hv with h1 _ _; injection h1 with h1; injection h1 with h1 _; subst h1
  refine ⟨h.1, ?_⟩
  rcases h.2 with ⟨e, _⟩ | ⟨g', cap', cur, e, hb, hh, r⟩
  · cases e
  · injection e with e1 e2 e3; injection e1 with e1; injection e1 with e1 _; subst e1
    exact .inr ⟨g, cap', cur, by rw [e3], hb, by rw [hf.block g hlt hg]; exact hh, r⟩
theorem ByB.heap {w : World} {T g n : Nat} {l : List UInt8} (h : ByB w T g n l) : w.heap[g]? = some (.cells (bs l).toArray T (0, 0)) := by
  rcases h.2 with ⟨e, _⟩ | ⟨g', cap', cur, e, hb, hh, _, _, hs, ht⟩
  · cases e
  · injection e with e1 e2 e3; injection e1 with e1; injection e1 with e1 _; subst e1; subst e3
    rw [hh, ← ht, List.take_of_length_le (by simp [hs])]
theorem ByB.of_block {w : World} {g n T : Nat} {l : List UInt8} {cs : Array Value} (h : w.heap[g]? = some (.cells cs T (0, 0))) (hc : cs = (bs l).toArray) (hn : l.length = n) (hm : n ≤ maxLen) : ByB w T g n l :=
  ⟨by rw [bs_length]; omega, .inr ⟨g, n, cs, rfl, Nat.le_refl _, h, Nat.le_refl _, hm, by rw [hc]; simp [bs_length, hn], by rw [hc]; simp; rw [List.take_of_length_le (by rw [bs_length]; omega)]⟩⟩
theorem ByB.range {w : World} {T g n : Nat} {l : List UInt8} (h : ByB w T g n l) : w.rangeAt g 0 (bs l) := by
  intro j v hv
  have hj : j < (bs l).length := (List.getElem?_eq_some_iff.1 hv).1
  have := h.len
  rw [bs_length] at hj
  rw [Nat.zero_add, World.ownsRow.cellAt h j (by omega)]; exact hv
/-- copy of bytes into a whole block -/
theorem run_copy_blk {w : World} (ty : TypeId) (g off dl dc N T : Nat) (L : List UInt8) (hb : w.heap[g]? = some (.cells (bs L).toArray T (0, 0))) (hL : L.length = N)
    (hfit : off + dl ≤ N) {F : Nat → Prop} {A : Option Addr} {sn sc : Nat} {l : List UInt8} (hs : Sl w F A sn sc l) :
    ∃ w', (Builtin.copy_ #[26, 26] ty #[.slice (some ⟨g, off, none⟩) dl dc, .slice A sn sc]).run Try.prog w = .ok (.int .i64 (min sn dl : Nat)) w' ∧
      w'.heap[g]? = some (.cells (bs (L.take off ++ (l.take dl ++ L.drop (off + min sn dl)))).toArray T (0, 0)) ∧ w.grownBy w' (some g) := by
  obtain ⟨i0, hi, hz0, hz1, hz2⟩ := info_parts Try.infoB
  have hsz : (Try.prog.info? 5).map (·.size) = some 1 := by rw [hi]; simp [hz1]
  have hlen := hs.len
  by_cases h0 : min sn dl = 0
  · refine ⟨w, ?_, ?_, World.grownBy.refl _ _⟩
    · have := run_copy_none (P := Try.prog) w 26 26 ty 5 (some ⟨g, off, none⟩) A dl dc sn sc Try.underlying26 hsz (by simpa [Nat.min_def] using h0)
      rw [this, h0]; rfl
    · have e : l.take dl = [] := by
        rcases Nat.eq_zero_or_pos dl with h | h
        · simp [h]
        · have : sn = 0 := by omega
          have : l = [] := List.eq_nil_of_length_eq_zero (by omega)
          simp [this]
      rw [e, h0]; simpa using hb
  · have hA : A ≠ none := fun e => by have := hs.zero e; omega
    obtain ⟨ad, rfl⟩ := Option.ne_none_iff_exists'.1 hA
    have htl : (l.take dl).length = min sn dl := by rw [List.length_take]; omega
    have hcells : ∀ j v, (bs (l.take dl))[j]? = some v → w.cell? (ad.add j) = some v := by
      intro j v hv
      have : (bs l)[j]? = some v := by
        simp only [bs, List.map_take] at hv ⊢
        rw [List.getElem?_take] at hv
        split at hv
        · exact hv
        · cases hv
      obtain ⟨ad', e3, hc⟩ := hs.rd j v this
      injection e3 with e3; subst e3; exact hc
    have hrun := run_copy_row (P := Try.prog) w 26 26 ty 5 g off dl dc ad sn sc (bs L).toArray T (bs (l.take dl)) Try.underlying26 hsz hb
      (by rw [bs_length, htl]) hcells (by rw [bs_length, htl]; simp [bs_length]; omega) (bs_oneCell _)
    rw [bs_length, htl] at hrun
    refine ⟨_, hrun, ?_, ⟨rfl, rfl, rfl, by simp, fun k _ hk => setRow_other w g k _ (fun e => hk (by rw [e]))⟩⟩
    rw [setRow_heap w g _ _ _ _ hb]
    simp [bs_append, bs, List.map_take, List.map_drop]
theorem copy_blk {w : World} {ops : Array Oper} {rest : List Oper} {o : Oper} {a : Act} {Q : Exit → Act → World → Prop} (d s : Operand)
    (ho : o.op = .call { callee := .builtin .copy, args := #[d, s], argTypes := #[26, 26] })
    (g off dl dc N T : Nat) (L : List UInt8) (hd : a.eval d = .slice (some ⟨g, off, none⟩) dl dc) (hb : w.heap[g]? = some (.cells (bs L).toArray T (0, 0))) (hL : L.length = N)
    (hfit : off + dl ≤ N) {F : Nat → Prop} {A : Option Addr} {sn sc : Nat} {l : List UInt8} (hsv : a.eval s = .slice A sn sc) (hs : Sl w F A sn sc l) (hw : Region.wanted o (yielded ops a.tmps) = true)
    (h : ∀ w', Hid (w'.heap[g]? = some (.cells (bs (L.take off ++ (l.take dl ++ L.drop (off + min sn dl)))).toArray T (0, 0))) → w.grownBy w' (some g) →
      wpList Try.prog ops Q rest (a.put o.dst (.int .i64 (min sn dl : Nat))) w') : wpList Try.prog ops Q (o :: rest) a w := by
  refine BigFrame.wpList_want hw fun K hK => ?_
  obtain ⟨w', hrun, h2, h3⟩ := run_copy_blk o.type g off dl dc N T L hb hL hfit hs
  unfold Oper.wp
  simp [execOp, ho, resolve, invoke, builtin, hd, hsv, hrun, Result.andThen]
  exact hK _ _ (h w' (Lib.hid h2) h3)
theorem results_cell {P : Program} {fn : Func} {tmps : Array Value} {w : World} {k T g : Nat} {v : Value} (hf : fn.results = #[.cell k T]) (ht : tmps.getD k undef = .pointer (some ⟨g, 0, none⟩))
    (hl : (loadVar T ⟨g, 0, none⟩).run P w = .ok v w) : (results fn tmps).run P w = .ok v w := by
  unfold results
  rw [hf]
  simp only [Array.getD_eq_getD_getElem?] at ht
  simp [ht, asAddr, hl]
theorem lst_index {P : Program} {ops : Array Oper} {rest : List Oper} {o : Oper} {a : Act} {w : World} {Q : Exit → Act → World → Prop} (T : TypeId) (x y : Operand) (ho : o.op = .index T x y) (X Y v : Value) (hx : a.eval x = X) (hy : a.eval y = Y)
    (hr : (Instr.index T X Y).run P w = .ok v w) (hw : Region.wanted o (yielded ops a.tmps) = true) (h : wpList P ops Q rest (a.put o.dst v) w) : wpList P ops Q (o :: rest) a w :=
  BigFrame.wpList_want hw fun K hK => by
    unfold Oper.wp execOp
    simp only [ho, hx, hy, Sem.run_bind, hr, Result.andThen_ok, Sem.run_pure]
    exact hK _ _ h
/-- an alloc, told by the slot it fills -/
theorem lst_alloc_d {P : Program} {ops : Array Oper} {rest : List Oper} {o : Oper} {a : Act} {w : World} {Q : Exit → Act → World → Prop} (d : Nat) (hd : o.dst = some d) (T : TypeId) (ho : o.op = .alloc T) (i : TypeInfo) (z : Value) (hi : P.info? T = some i) (hz : i.zero = some z) (hw : Region.wanted o (yielded ops a.tmps) = true)
    (hk : ∀ g w', Hid (g = w.heap.size ∧ w'.heap.size = w.heap.size + 1) → Hid (w'.heap[g]? = some (.cells z.cells T (0, 0))) → Below w.heap.size w w' → wpList P ops Q rest (a.put (some d) (.pointer (some ⟨g, 0, none⟩))) w') : wpList P ops Q (o :: rest) a w :=
  lst_alloc_abs T ho i z hi hz hw (by rw [hd]; exact hk)
end Go.Proofs.Ytklclbppdoahjaa
/- Words out of bytes; the square that a block begins with. -/
namespace Go.Proofs.Ytklclbppdoahjaa
set_option maxRecDepth 100000
open Go.RowKit
attribute [local go_sem] yld yldUpon_value

def leAt (l : List UInt8) (i : Nat) : BitVec 32 := leW (l.getD i 0) (l.getD (i + 1) 0) (l.getD (i + 2) 0) (l.getD (i + 3) 0)
theorem wrap64_id (x : Int) (h0 : -9223372036854775808 ≤ x) (h : x ≤ 9223372036854775807) : IntKind.i64.wrap x = x := by
  simp only [IntKind.wrap, IntKind.signed, IntKind.bits]
  simp
  omega
theorem wrap_u32 (x : Int) : IntKind.u32.wrap x = x % 4294967296 := by
  simp only [IntKind.wrap, IntKind.signed, IntKind.bits]
  simp
theorem getD_eq {l : List UInt8} {i : Nat} (h : i < l.length) : l.getD i 0 = l[i] := by simp [List.getD, h]

theorem Sl.four {w : World} {F : Nat → Prop} {A : Option Addr} {n c : Nat} {l : List UInt8} (h : Sl w F A n c l) (i : Nat) (hi : i + 3 < n) : ∃ ad b0 b1 b2 b3, A = some ad ∧ leAt l i = leW b0 b1 b2 b3 ∧
    w.cell? (ad.add i) = some (.int .u8 (b0.toNat : Int)) ∧ w.cell? (ad.add (i + 1)) = some (.int .u8 (b1.toNat : Int)) ∧ w.cell? (ad.add (i + 2)) = some (.int .u8 (b2.toNat : Int)) ∧ w.cell? (ad.add (i + 3)) = some (.int .u8 (b3.toNat : Int)) := by
  have hlen := h.len
  obtain ⟨ad, rfl, h0⟩ := h.rd i _ (bs_get l i (by omega))
  obtain ⟨ad1, e1, h1⟩ := h.rd (i + 1) _ (bs_get l (i + 1) (by omega))
  obtain ⟨ad2, e2, h2⟩ := h.rd (i + 2) _ (bs_get l (i + 2) (by omega))
  obtain ⟨ad3, e3, h3⟩ := h.rd (i + 3) _ (bs_get l (i + 3) (by omega))
  injection e1 with e1; injection e2 with e2; injection e3 with e3
  subst e1 e2 e3
  refine ⟨_, _, _, _, _, rfl, ?_, h0, h1, h2, h3⟩
  unfold leAt
  rw [getD_eq (by omega), getD_eq (by omega), getD_eq (by omega), getD_eq (by omega)]

set_option maxHeartbeats 1000000 in
theorem at_any {w : World} {F : Nat → Prop} {A : Option Addr} {n c : Nat} {l : List UInt8} (h : Sl w F A n c l) (i : Nat) (hi : i + 3 < n) (hn : n ≤ 9223372036854775000) :
    Calls Try.prog 64 #[.slice A n c, .int .i64 i] w fun e w' => e = .returned (.int .u32 (wv (leAt l i))) ∧ ∃ k, w' = w.drewN k := by
  obtain ⟨ad, b0, b1, b2, b3, rfl, hle, h0, h1, h2, h3⟩ := h.four i hi
  rw [hle]
  obtain ⟨i1, e1⟩ : ∃ i1, i1 = i + 1 := ⟨_, rfl⟩
  obtain ⟨i2, e2⟩ : ∃ i2, i2 = i + 2 := ⟨_, rfl⟩
  obtain ⟨i3, e3⟩ : ∃ i3, i3 = i + 3 := ⟨_, rfl⟩
  rw [← e1] at h1; rw [← e2] at h2; rw [← e3] at h3
  have j0 : (i : Int) < n := by omega
  have j1 : (i1 : Int) < n := by omega
  have j2 : (i2 : Int) < n := by omega
  have j3 : (i3 : Int) < n := by omega
  have i0 : (0 : Int) ≤ (i : Int) := by omega
  have v1 : IntKind.i64.wrap ((i : Int) + 1) = (i1 : Int) := by rw [wrap64_id _ (by omega) (by omega)]; omega
  have v2 : IntKind.i64.wrap ((i : Int) + 2) = (i2 : Int) := by rw [wrap64_id _ (by omega) (by omega)]; omega
  have v3 : IntKind.i64.wrap ((i : Int) + 3) = (i3 : Int) := by rw [wrap64_id _ (by omega) (by omega)]; omega
  clear e1 e2 e3
  clear h hn hi hle
  go_enter Try.func64, Try.ntmps64
  go_wp2_with fail
  go_quiet (fail)
  go_wp2
  go_ret
  exact ⟨ret_int (le_num _ _ _ _), nq, rfl⟩
theorem at_at {w : World} {F : Nat → Prop} {A : Option Addr} {n c : Nat} {l : List UInt8} (h : Sl w F A n c l) (I : Int) (i : Nat) (hI : I = i) (hi : i + 3 < n) (hn : n ≤ 9223372036854775000) :
    Calls Try.prog 64 #[.slice A n c, .int .i64 I] w fun e w' => e = .returned (.int .u32 (wv (leAt l i))) ∧ ∃ k, w' = w.drewN k := by
  subst hI; exact at_any h i hi hn
end Go.Proofs.Ytklclbppdoahjaa
/- The square that a block begins with. -/
namespace Go.Proofs.Ytklclbppdoahjaa
set_option maxRecDepth 100000
open Go.RowKit
attribute [local go_sem] yld yldUpon_value

def sigma : List UInt8 := [101, 120, 112, 97, 110, 100, 32, 51, 50, 45, 98, 121, 116, 101, 32, 107]
def beginP (key : List UInt8) (ctr : BitVec 32) (nonce : List UInt8) : List (BitVec 32) :=
  [leAt sigma 0, leAt sigma 4, leAt sigma 8, leAt sigma 12,
   leAt key 0, leAt key 4, leAt key 8, leAt key 12, leAt key 16, leAt key 20, leAt key 24, leAt key 28,
   ctr, leAt nonce 0, leAt nonce 4, leAt nonce 8]
/-- its first j words -/
def partP (B : List (BitVec 32)) (j : Nat) : List (BitVec 32) := B.take j ++ List.replicate (16 - j) 0
theorem partP_set (B : List (BitVec 32)) (hB : B.length = 16) (j : Nat) (hj : j < 16) (x : BitVec 32) (hx : gw B j = x) : (partP B j).set j x = partP B (j + 1) := by
  subst hx
  rw [gw_eq (by omega)]
  unfold partP
  rw [List.set_append_right _ _ (by simp; omega)]
  rw [show j - (B.take j).length = 0 by simp; omega]
  rw [show 16 - j = (16 - (j + 1)) + 1 by omega, List.replicate_succ, List.set_cons_zero]
  rw [List.take_succ_eq_append_getElem (i := j) (by omega)]
  rw [List.append_assoc]
  simp [show 16 - (j + 1) = 15 - j by omega]
theorem Try.infoSq : (Try.prog.info? 91).map (fun i => (i.zero, i.size)) = some (some (.agg (wl (List.replicate 16 0)).toArray), 16) := by kernel_rfl

/-- what begins holds -/
structure BInv (w w' : World) (gk gn gr gs : Nat) (key nonce : List UInt8) (s : List (BitVec 32)) : Prop where
  old : w.heap.size ≤ gk ∧ w.heap.size ≤ gr ∧ w.heap.size ≤ gs
  ne : gs ≠ gk ∧ gs ≠ gn ∧ gs ≠ gr
  lt : gk < w'.heap.size ∧ gn < w'.heap.size ∧ gr < w'.heap.size ∧ gs < w'.heap.size
  k : Sl w' (fun k => k = gk) (some ⟨gk, 0, none⟩) 32 32 key
  n : Sl w' (fun k => k = gn) (some ⟨gn, 0, none⟩) 12 12 nonce
  r : w'.heap[gr]? = some (.cells (wl (List.replicate 16 0)).toArray 91 (0, 0))
  s : SqB w' 91 gs 16 16 s
  fr : Below w.heap.size w w'
theorem BInv.below {w w' w2 : World} {gk gn gr gs : Nat} {key nonce : List UInt8} {s : List (BitVec 32)} (h : BInv w w' gk gn gr gs key nonce s) (hb : Below w'.heap.size w' w2) : BInv w w2 gk gn gr gs key nonce s := by
  have hz := hb.size
  have hl := h.lt
  have hw := h.fr.size
  have hb2 := h.fr.trans (hb.mono hw)
  exact ⟨h.old, h.ne, by omega, h.k.fr (Fr.of_below (M := NoB) hb) (fun k hk => ⟨by omega, id⟩), h.n.fr (Fr.of_below (M := NoB) hb) (fun k hk => ⟨by omega, id⟩),
    by rw [hb.block _ (by omega)]; exact h.r, h.s.fr (Fr.of_below (M := NoB) hb) id (by decide), hb2⟩
theorem BInv.step {w w' : World} {gk gn gr gs : Nat} {key nonce : List UInt8} {s : List (BitVec 32)} (h : BInv w w' gk gn gr gs key nonce s) (j : Nat) (x : BitVec 32) : BInv w (w'.setCell ⟨gs, j, none⟩ (.int .u32 (wv x))) gk gn gr gs key nonce (s.set j x) := by
  have hf : Fr (fun k => k = gs) w' (w'.setCell ⟨gs, j, none⟩ (.int .u32 (wv x))) := (Fr.refl (fun k => k = gs) w').setCell (p := ⟨gs, j, none⟩) (.inl rfl) _
  have hz := hf.size
  have hl := h.lt
  have ho := h.old
  have hne := h.ne
  refine ⟨h.old, h.ne, by omega, h.k.fr hf (fun k hk => ⟨by omega, by omega⟩), h.n.fr hf (fun k hk => ⟨by omega, by omega⟩),
    by rw [hf.block _ (by omega) (by omega)]; exact h.r, h.s.set j x, ?_⟩
  have hfw : Fr (fun k => k = gs) w (w'.setCell ⟨gs, j, none⟩ (.int .u32 (wv x))) := (Fr.of_below h.fr).trans hf (fun i _ h => h)
  exact hfw.to_below (fun i hi => by omega)
theorem BInv.start (w : World) (key nonce : List UInt8) (hk : key.length = 32) (hn : nonce.length = 12) (B : List (BitVec 32)) (hB : partP B 0 = List.replicate 16 0) :
    BInv w (((w.alloc (.cells (bs key).toArray 23)).alloc (.cells (bs nonce).toArray 25)).alloc (.cells (wl (List.replicate 16 0)).toArray 91) |>.alloc (.cells (wl (List.replicate 16 0)).toArray 91))
      w.heap.size (w.heap.size + 1) (w.heap.size + 1 + 1) (w.heap.size + 1 + 1 + 1) key nonce (partP B 0) := by
  rw [hB]
  have a1 := heap_alloc_new w (.cells (bs key).toArray 23)
  generalize hw1 : w.alloc (.cells (bs key).toArray 23) = w1 at a1 ⊢
  have z1 : w1.heap.size = w.heap.size + 1 := by subst hw1; simp
  have b1 : Below w.heap.size w w1 := by subst hw1; exact (Below.refl _ _).alloc (Nat.le_refl _) _
  have a2 := heap_alloc_new w1 (.cells (bs nonce).toArray 25)
  generalize hw2 : w1.alloc (.cells (bs nonce).toArray 25) = w2 at a2 ⊢
  have z2 : w2.heap.size = w1.heap.size + 1 := by subst hw2; simp
  have b2 : Below w1.heap.size w1 w2 := by subst hw2; exact (Below.refl _ _).alloc (Nat.le_refl _) _
  have a3 := heap_alloc_new w2 (.cells (wl (List.replicate 16 0)).toArray 91)
  generalize hw3 : w2.alloc (.cells (wl (List.replicate 16 0)).toArray 91) = w3 at a3 ⊢
  have z3 : w3.heap.size = w2.heap.size + 1 := by subst hw3; simp
  have b3 : Below w2.heap.size w2 w3 := by subst hw3; exact (Below.refl _ _).alloc (Nat.le_refl _) _
  have a4 := heap_alloc_new w3 (.cells (wl (List.replicate 16 0)).toArray 91)
  generalize hw4 : w3.alloc (.cells (wl (List.replicate 16 0)).toArray 91) = w4 at a4 ⊢
  have z4 : w4.heap.size = w3.heap.size + 1 := by subst hw4; simp
  have b4 : Below w3.heap.size w3 w4 := by subst hw4; exact (Below.refl _ _).alloc (Nat.le_refl _) _
  have b24 : Below w2.heap.size w2 w4 := b3.trans (b4.mono (by omega))
  have b14 : Below w1.heap.size w1 w4 := b2.trans (b24.mono (by omega))
  have e2 : w.heap.size + 1 + 1 = w2.heap.size := by omega
  have e3 : w.heap.size + 1 + 1 + 1 = w3.heap.size := by omega
  have e1 : w.heap.size + 1 = w1.heap.size := by omega
  rw [e1] at e2 e3 ⊢
  rw [e2] at e3 ⊢
  rw [e3]
  exact ⟨by omega, by omega, by omega,
    (Sl.of_block a1 rfl 32 hk).fr (Fr.of_below (M := NoB) b14) (fun k hk => ⟨by omega, id⟩),
    (Sl.of_block a2 rfl 12 hn).fr (Fr.of_below (M := NoB) b24) (fun k hk => ⟨by omega, id⟩),
    by rw [b4.block _ (by omega)]; exact a3,
    ⟨rfl, .inr ⟨_, 16, _, rfl, Nat.le_refl _, a4, Nat.le_refl _, by decide, rfl, rfl⟩⟩,
    b1.trans (b14.mono (by omega))⟩

set_option maxRecDepth 100000 in
set_option maxHeartbeats 4000000 in
theorem begins_any (w : World) (key nonce : List UInt8) (ctr : BitVec 32) (hk : key.length = 32) (hn : nonce.length = 12) :
    Calls Try.prog 56 #[.agg (bs key).toArray, .int .u32 (wv ctr), .agg (bs nonce).toArray] w fun e w' => e = .returned (.agg (wl (beginP key ctr nonce)).toArray) ∧ Below w.heap.size w w' := by
  have Hk := Lib.hid hk; have Hn := Lib.hid hn
  clear hk hn
  go_enter Try.func56, Try.ntmps56
  go_wp2_with fail
  have hf : Hid (BInv w ((((w.alloc (.cells (bs key).toArray 23)).alloc (.cells (bs nonce).toArray 25)).alloc (.cells #[.int .u32 0, .int .u32 0, .int .u32 0, .int .u32 0, .int .u32 0, .int .u32 0, .int .u32 0, .int .u32 0, .int .u32 0, .int .u32 0, .int .u32 0, .int .u32 0, .int .u32 0, .int .u32 0, .int .u32 0, .int .u32 0] 91)).alloc (.cells #[.int .u32 0, .int .u32 0, .int .u32 0, .int .u32 0, .int .u32 0, .int .u32 0, .int .u32 0, .int .u32 0, .int .u32 0, .int .u32 0, .int .u32 0, .int .u32 0, .int .u32 0, .int .u32 0, .int .u32 0, .int .u32 0] 91))
      w.heap.size (w.heap.size + 1) (w.heap.size + 1 + 1) (w.heap.size + 1 + 1 + 1) key nonce (partP (beginP key ctr nonce) 0)) := BInv.start w key nonce Hk.out Hn.out _ rfl
  generalize (((w.alloc (.cells (bs key).toArray 23)).alloc (.cells (bs nonce).toArray 25)).alloc (.cells #[.int .u32 0, .int .u32 0, .int .u32 0, .int .u32 0, .int .u32 0, .int .u32 0, .int .u32 0, .int .u32 0, .int .u32 0, .int .u32 0, .int .u32 0, .int .u32 0, .int .u32 0, .int .u32 0, .int .u32 0, .int .u32 0] 91)).alloc (.cells #[.int .u32 0, .int .u32 0, .int .u32 0, .int .u32 0, .int .u32 0, .int .u32 0, .int .u32 0, .int .u32 0, .int .u32 0, .int .u32 0, .int .u32 0, .int .u32 0, .int .u32 0, .int .u32 0, .int .u32 0, .int .u32 0] 91) = w0 at hf ⊢
  generalize w.heap.size + 1 + 1 + 1 = gs at hf ⊢
  generalize w.heap.size + 1 + 1 = gr at hf ⊢
  generalize w.heap.size + 1 = gn at hf ⊢
  obtain ⟨B, hB⟩ : ∃ B, B = beginP key ctr nonce := ⟨_, rfl⟩
  rw [← hB] at hf
  have HB := Lib.hid hB; clear hB
  have HL : Hid (B.length = 16) := by rw [HB.out]; rfl
  go_loopw [11] (fun i w' => ∃ k : Nat, k ≤ 4 ∧ i = .int .i64 (k : Nat) ∧ Hid (BInv w w' w.heap.size gn gr gs key nonce (partP B k))) (fun i _ => 4 - (intOf i).toNat)
  case atStart => exact ⟨0, Nat.zero_le _, rfl, hf.out⟩
  case round =>
    obtain ⟨k, hk, rfl, hI⟩ := hrel
    clear hf
    by_cases hlt : k < 4
    · have hkI : (k : Int) < 4 := by omega
      have hk0 : (0 : Int) ≤ (k : Int) := by omega
      have q22 := Lib.run_convert_bytes_const (P := Try.prog) wr 26 5 #[.int .u8 101, .int .u8 120, .int .u8 112, .int .u8 97, .int .u8 110, .int .u8 100, .int .u8 32, .int .u8 51, .int .u8 50, .int .u8 45, .int .u8 98, .int .u8 121, .int .u8 116, .int .u8 101, .int .u8 32, .int .u8 107] 16 16 Try.underlying26 Try.underlying5
      go_wp2_with fail
      clear q22
      have hs1 := Sl.of_block (l := sigma) (heap_alloc_new wr (.cells #[.int .u8 101, .int .u8 120, .int .u8 112, .int .u8 97, .int .u8 110, .int .u8 100, .int .u8 32, .int .u8 51, .int .u8 50, .int .u8 45, .int .u8 98, .int .u8 121, .int .u8 116, .int .u8 101, .int .u8 32, .int .u8 107] 5 (16, 17))) rfl 16 rfl
      have hb1 : Hid (BInv w (wr.alloc (.cells #[.int .u8 101, .int .u8 120, .int .u8 112, .int .u8 97, .int .u8 110, .int .u8 100, .int .u8 32, .int .u8 51, .int .u8 50, .int .u8 45, .int .u8 98, .int .u8 121, .int .u8 116, .int .u8 101, .int .u8 32, .int .u8 107] 5 (16, 17))) w.heap.size gn gr gs key nonce (partP B k)) := hI.out.below ((Below.refl _ _).alloc (Nat.le_refl _) _)
      generalize (wr.alloc (.cells #[.int .u8 101, .int .u8 120, .int .u8 112, .int .u8 97, .int .u8 110, .int .u8 100, .int .u8 32, .int .u8 51, .int .u8 50, .int .u8 45, .int .u8 98, .int .u8 121, .int .u8 116, .int .u8 101, .int .u8 32, .int .u8 107] 5 (16, 17))) = w1 at hs1 hb1 ⊢
      clear hI
      refine (at_at hs1 _ (4 * k) (by omega) (by omega) (by decide)).mono ?_
      rintro e w2 ⟨rfl, x, rfl⟩
      have hb2 : Hid (BInv w (w1.drewN x) w.heap.size gn gr gs key nonce (partP B k)) := hb1.out.below (below_drewN (Below.refl _ _) _)
      generalize w1.drewN x = w2 at hb2 ⊢
      clear hs1 hb1
      have hc := hb2.out.s.cell (i := k) (by omega)
      have hz := hb2.out.s.frz k
      have k16 : (k : Int) < 16 := by omega
      go_wp2_with fail
      have hb3 := Lib.hid (hb2.out.step k (leAt sigma (4 * k)))
      go_roundw
      case rel => exact ⟨k + 1, by omega, by go_num, by rw [← partP_set B HL.out k (by omega) (leAt sigma (4 * k)) (by rw [HB.out]; match k, hlt with | 0, _ => rfl | 1, _ => rfl | 2, _ => rfl | 3, _ => rfl)]; exact hb3.out⟩
      case measure => simp [intOf]; omega
    · have hkI : decide ((k : Int) < 4) = false := decide_eq_false (by omega)
      have hk4 : k = 4 := by omega
      rw [hk4] at hI
      clear hlt hk hk4
      go_wp2_with fail
      clear hkI
      go_loopw [22] (fun i w' => ∃ k : Nat, k ≤ 8 ∧ i = .int .i64 (k : Nat) ∧ Hid (BInv w w' w.heap.size gn gr gs key nonce (partP B (4 + k)))) (fun i _ => 8 - (intOf i).toNat)
      case atStart => exact ⟨0, Nat.zero_le _, rfl, hI.out⟩
      case round =>
        obtain ⟨k, hk, rfl, hI⟩ := hrel
        by_cases hlt : k < 8
        · have hkI : (k : Int) < 8 := by omega
          have hk0 : (0 : Int) ≤ (k : Int) := by omega
          go_wp2_with fail
          refine (at_at hI.out.k _ (4 * k) (by omega) (by omega) (by decide)).mono ?_
          rintro e w2 ⟨rfl, x, rfl⟩
          have hb2 : Hid (BInv w (wr.drewN x) w.heap.size gn gr gs key nonce (partP B (4 + k))) := hI.out.below (below_drewN (Below.refl _ _) _)
          generalize wr.drewN x = w2 at hb2 ⊢
          clear hI
          have hc := hb2.out.s.cell (i := 4 + k) (by omega)
          have hz := hb2.out.s.frz (4 + k)
          have k16 : 4 + (k : Int) < 16 := by omega
          go_wp2_with fail
          have hb3 := Lib.hid (hb2.out.step (4 + k) (leAt key (4 * k)))
          go_roundw
          case rel => exact ⟨k + 1, by omega, by go_num, by
            show BInv _ _ _ _ _ _ _ _ (partP B ((4 + k) + 1))
            rw [← partP_set B HL.out (4 + k) (by omega) (leAt key (4 * k)) (by rw [HB.out]; match k, hlt with | 0, _ => rfl | 1, _ => rfl | 2, _ => rfl | 3, _ => rfl | 4, _ => rfl | 5, _ => rfl | 6, _ => rfl | 7, _ => rfl)]; exact hb3.out⟩
          case measure => simp [intOf]; omega
        · have hkI : decide ((k : Int) < 8) = false := decide_eq_false (by omega)
          have hk4 : k = 8 := by omega
          rw [hk4] at hI
          have hc := hI.out.s.cell (i := 12) (by omega)
          have hz := hI.out.s.frz 12
          clear hlt hk hk4
          go_wp2_with fail
          clear hkI
          have hb3 : Hid (BInv w (wr.setCell ⟨gs, 12, none⟩ (.int .u32 (wv ctr))) w.heap.size gn gr gs key nonce (partP B 13)) := by
            rw [← partP_set B HL.out 12 (by omega) ctr (by rw [HB.out]; rfl)]; exact hI.out.step 12 ctr
          clear hI hc hz
          go_loopw [35] (fun i w' => ∃ k : Nat, k ≤ 3 ∧ i = .int .i64 (k : Nat) ∧ Hid (BInv w w' w.heap.size gn gr gs key nonce (partP B (13 + k)))) (fun i _ => 3 - (intOf i).toNat)
          case atStart => exact ⟨0, Nat.zero_le _, rfl, hb3.out⟩
          case round =>
            obtain ⟨k, hk, rfl, hI⟩ := hrel
            clear hb3
            by_cases hlt : k < 3
            · have hkI : (k : Int) < 3 := by omega
              have hk0 : (0 : Int) ≤ (k : Int) := by omega
              go_wp2_with fail
              refine (at_at hI.out.n _ (4 * k) (by omega) (by omega) (by decide)).mono ?_
              rintro e w2 ⟨rfl, x, rfl⟩
              have hb2 : Hid (BInv w (wr.drewN x) w.heap.size gn gr gs key nonce (partP B (13 + k))) := hI.out.below (below_drewN (Below.refl _ _) _)
              generalize wr.drewN x = w2 at hb2 ⊢
              clear hI
              have hc := hb2.out.s.cell (i := 13 + k) (by omega)
              have hz := hb2.out.s.frz (13 + k)
              have k16 : 13 + (k : Int) < 16 := by omega
              go_wp2_with fail
              have hb3 := Lib.hid (hb2.out.step (13 + k) (leAt nonce (4 * k)))
              go_roundw
              case rel => exact ⟨k + 1, by omega, by go_num, by
                show BInv _ _ _ _ _ _ _ _ (partP B ((13 + k) + 1))
                rw [← partP_set B HL.out (13 + k) (by omega) (leAt nonce (4 * k)) (by rw [HB.out]; match k, hlt with | 0, _ => rfl | 1, _ => rfl | 2, _ => rfl)]; exact hb3.out⟩
              case measure => simp [intOf]; omega
            · have hkI : decide ((k : Int) < 3) = false := decide_eq_false (by omega)
              have hk4 : k = 3 := by omega
              rw [hk4] at hI
              clear hlt hk hk4
              have hu : ∃ d, Try.prog.underlying 91 = some d ∧ d.isRow = true := ⟨_, Try.underlying91, rfl⟩
              obtain ⟨d, hu, hd⟩ := hu
              have hi : Hid ((Try.prog.info? 91).map (·.size) = some (wl B).length) := by
                rw [wl_length, HL.out]; exact (by kernel_rfl : (Try.prog.info? 91).map (·.size) = some 16)
              have hr : Hid (wr.rangeAt gs 0 (wl B)) := by
                have e16 : partP B (13 + 3) = B := by unfold partP; rw [List.take_of_length_le (by rw [HL.out]; decide)]; simp
                have h := hI.out.s
                rw [e16] at h
                intro j v hv
                have hj : j < (wl B).length := (List.getElem?_eq_some_iff.1 hv).1
                rw [wl_length, HL.out] at hj
                rw [Nat.zero_add, World.ownsRow.cellAt h j (by omega)]; exact hv
              have Hu := Lib.hid hu
              clear hu
              go_wp2_with (first
                | ((with_reducible refine lst_load_mid 91 (.tmp 7) rfl gs 0 rfl (wl B) d hr.out Hu.out hd hi.out ?_ ?_)
                   (focus rfl))
                | ((with_reducible refine lst_store_abs 91 (.tmp 6) (.tmp 46) rfl gr 91 (wl (List.replicate 16 0)).toArray (wl B).toArray rfl rfl hI.out.r (by simpa using hi.out) (by simp [wl_length, HL.out]) (by simp; exact wl_oneCell _) ?_ ?_)
                   (focus rfl)
                   intro w4 Hh4 hg4))
              refine bodyPost_ret (v := .agg (wl B).toArray) ?_ rfl ⟨by rw [HB.out], ?_⟩
              · have h4 : w4.rangeAt gr 0 (wl B) := by
                  intro j v hv
                  rw [Nat.zero_add, cell_of_row w4 gr j _ _ _ Hh4.out]; simpa using hv
                have hl := run_loadVar_mid w4 gr 0 91 (wl B) d h4 Hu.out hd hi.out
                exact results_cell Try.results56 rfl hl
              · exact hI.out.fr.grown hg4 hI.out.fr.size (fun j hj => by injection hj with hj; have := hI.out.old; omega)
end Go.Proofs.Ytklclbppdoahjaa
/- A block. -/
namespace Go.Proofs.Ytklclbppdoahjaa
set_option maxRecDepth 100000
open Go.RowKit
attribute [local go_sem] yld yldUpon_value

def byteOf (x : BitVec 32) (k : Nat) : UInt8 := UInt8.ofNat (x.toNat / 2 ^ (8 * k))
/-- the words, their bytes -/
def outP (S B : List (BitVec 32)) : List UInt8 := (List.range 64).map fun j => byteOf (gw S (j / 4) + gw B (j / 4)) (j % 4)
theorem outP_len (S B : List (BitVec 32)) : (outP S B).length = 64 := by simp [outP]
def blockP (key : List UInt8) (ctr : BitVec 32) (nonce : List UInt8) : List UInt8 := outP (turns (beginP key ctr nonce) 80) (beginP key ctr nonce)
theorem bv_byteOf (x : BitVec 32) (k : Nat) : Value.int .u8 (wv x / 2 ^ (8 * k) % 256) = bv (byteOf x k) := by
  have e : wv x / 2 ^ (8 * k) = ((x.toNat / 2 ^ (8 * k) : Nat) : Int) := by simp [wv]
  rw [e]
  have e2 : (byteOf x k).toNat = x.toNat / 2 ^ (8 * k) % 256 := UInt8.toNat_ofNat'
  unfold bv
  rw [e2]
  rfl
theorem outP_get (S B : List (BitVec 32)) (i k : Nat) (hi : i < 16) (hk : k < 4) (h : 4 * i + k < (outP S B).length) : (outP S B)[4 * i + k] = byteOf (gw S i + gw B i) k := by
  have e : (outP S B)[4 * i + k]? = some (byteOf (gw S i + gw B i) k) := by
    unfold outP
    rw [List.getElem?_map, List.getElem?_range (by omega)]
    simp only [Option.map_some]
    rw [show (4 * i + k) / 4 = i by omega, show (4 * i + k) % 4 = k by omega]
  rw [List.getElem?_eq_getElem h] at e
  exact Option.some.inj e
theorem blockP_len (key : List UInt8) (ctr : BitVec 32) (nonce : List UInt8) : (blockP key ctr nonce).length = 64 := outP_len _ _
def partB (L : List UInt8) (j : Nat) : List UInt8 := L.take j ++ List.replicate (64 - j) 0
theorem partB_set (L : List UInt8) (hL : L.length = 64) (j : Nat) (hj : j < 64) : (partB L j).set j L[j] = partB L (j + 1) := by
  unfold partB
  rw [List.set_append_right _ _ (by simp; omega)]
  rw [show j - (L.take j).length = 0 by simp; omega]
  rw [show 64 - j = (64 - (j + 1)) + 1 by omega, List.replicate_succ, List.set_cons_zero]
  rw [List.take_succ_eq_append_getElem (i := j) (by omega)]
  rw [List.append_assoc]
  simp [show 64 - (j + 1) = 63 - j by omega]
theorem partB_len (L : List UInt8) (hL : L.length = 64) (j : Nat) (hj : j ≤ 64) : (partB L j).length = 64 := by simp [partB]; omega
theorem SqB.heap {w : World} {T g n : Nat} {l : List (BitVec 32)} (h : SqB w T g n n l) : w.heap[g]? = some (.cells (wl l).toArray T (0, 0)) := by
  rcases h.2 with ⟨e, _⟩ | ⟨g', cap', cur, e, hb, hh, _, _, hs, ht⟩
  · cases e
  · injection e with e1 e2 e3; injection e1 with e1; injection e1 with e1 _; subst e1; subst e3
    rw [hh, ← ht, List.take_of_length_le (by simp [hs])]
theorem SqB.of_block {w : World} {g n T : Nat} {l : List (BitVec 32)} {cs : Array Value} (h : w.heap[g]? = some (.cells cs T (0, 0))) (hc : cs = (wl l).toArray) (hn : l.length = n) (hm : n ≤ maxLen) : SqB w T g n n l :=
  ⟨by rw [wl_length]; omega, .inr ⟨g, n, cs, rfl, Nat.le_refl _, h, Nat.le_refl _, hm, by rw [hc]; simp [wl_length, hn], by rw [hc]; simp; rw [List.take_of_length_le (by rw [wl_length]; omega)]⟩⟩
theorem SqB.range {w : World} {T g n : Nat} {l : List (BitVec 32)} (h : SqB w T g n n l) : w.rangeAt g 0 (wl l) := by
  intro j v hv
  have hj : j < (wl l).length := (List.getElem?_eq_some_iff.1 hv).1
  have := h.len
  rw [wl_length] at hj
  rw [Nat.zero_add, World.ownsRow.cellAt h j (by omega)]; exact hv
theorem Try.infoW : (Try.prog.info? 49).map (fun i => (i.zero, i.size, i.bytes)) = some (some (.int .u32 0), 1, 4) := by kernel_rfl
theorem run_index_sq (w : World) (T n : Nat) (l : List (BitVec 32)) (hu : Try.prog.underlying T = some (.array n 49)) (hn : l.length = n) (i : Nat) (h : i < n) :
    (Instr.index T (.agg (wl l).toArray) (.int .i64 i)).run Try.prog w = .ok (.int .u32 (wv (gw l i))) w := by
  obtain ⟨i0, hi, hz0, hz1, hz2⟩ := info_parts Try.infoW
  have e : (wl l).toArray[i * 1]? = some (.int .u32 (wv (gw l i))) := by
    rw [gw_eq (by omega)]; simp [wl, hn, h]
  have hag : (isAgg 49).run Try.prog w = .ok false w := by
    unfold isAgg
    simp [run_underlying Try.underlying49]
  have hp : (part 49 (wl l).toArray (i * 1)).run Try.prog w = .ok (.int .u32 (wv (gw l i))) w := by
    unfold part
    simp only [Sem.run_bind, hag, Result.andThen_ok, e]
    simp
  have hsz : (sizeOf 49).run Try.prog w = .ok 1 w := by
    unfold sizeOf typeInfo
    simp [hi, hz1]
  unfold Instr.index
  simp only [asIntOf, Sem.run_bind, Sem.run_pure, Result.andThen_ok, run_underlying hu]
  rw [if_pos ⟨by omega, by omega⟩]
  simp only [Sem.run_bind, hsz, Result.andThen_ok, Int.toNat_natCast]
  exact hp
theorem run_index_by (w : World) (T n : Nat) (l : List UInt8) (hu : Try.prog.underlying T = some (.array n 5)) (hn : l.length = n) (i : Nat) (h : i < l.length) :
    (Instr.index T (.agg (bs l).toArray) (.int .i64 i)).run Try.prog w = .ok (bv l[i]) w := by
  obtain ⟨i0, hi, hz0, hz1, hz2⟩ := info_parts Try.infoB
  have hsz : (sizeOf 5).run Try.prog w = .ok 1 w := by
    unfold sizeOf typeInfo
    simp [hi, hz1]
  unfold Instr.index
  simp only [asIntOf, Sem.run_bind, Sem.run_pure, Result.andThen_ok, run_underlying hu]
  rw [if_pos ⟨by omega, by omega⟩]
  simp only [Sem.run_bind, hsz, Result.andThen_ok, Int.toNat_natCast]
  exact run_part_byte w l i h
theorem Try.infoO : (Try.prog.info? 61).map (fun i => (i.zero, i.size, i.bytes)) = some (some (.agg (bs (List.replicate 64 0)).toArray), 64, 64) := by kernel_rfl
theorem Try.infoS : (Try.prog.info? 91).map (fun i => (i.zero, i.size, i.bytes)) = some (some (.agg (wl (List.replicate 16 0)).toArray), 16, 64) := by kernel_rfl
theorem Try.sizeK : (Try.prog.info? 23).map (·.size) = some 32 := by kernel_rfl
theorem Try.sizeN : (Try.prog.info? 25).map (·.size) = some 12 := by kernel_rfl
theorem Try.sizeS : (Try.prog.info? 91).map (·.size) = some 16 := by kernel_rfl
theorem Try.sizeO : (Try.prog.info? 61).map (·.size) = some 64 := by kernel_rfl
end Go.Proofs.Ytklclbppdoahjaa
/- chacha.Block. -/
namespace Go.Proofs.Ytklclbppdoahjaa
set_option maxRecDepth 100000
open Go.RowKit
attribute [local go_sem] yld yldUpon_value

/-- what Block holds while it writes its bytes -/
structure KInv (w w' : World) (g1 g7 g9 : Nat) (B : List (BitVec 32)) (L : List UInt8) (j : Nat) : Prop where
  lt : g1 < w'.heap.size ∧ g7 < w'.heap.size ∧ g9 < w'.heap.size
  ne : g1 ≠ g9 ∧ g7 ≠ g9
  old : w.heap.size ≤ g9
  o : w'.heap[g1]? = some (.cells (bs (List.replicate 64 0)).toArray 61 (0, 0))
  b : SqB w' 91 g7 16 16 B
  out : ByB w' 61 g9 64 (partB L j)
  fr : Below w.heap.size w w'
theorem KInv.step {w w' : World} {g1 g7 g9 : Nat} {B : List (BitVec 32)} {L : List UInt8} {j : Nat} (h : KInv w w' g1 g7 g9 B L j) (hL : L.length = 64) (hj : j < 64) (v : Value) (hv : v = bv L[j]) : KInv w (w'.setCell ⟨g9, j, none⟩ v) g1 g7 g9 B L (j + 1) := by
  subst hv
  have hf : Fr (fun k => k = g9) w' (w'.setCell ⟨g9, j, none⟩ (bv L[j])) := (Fr.refl (fun k => k = g9) w').setCell (p := ⟨g9, j, none⟩) (.inl rfl) _
  have hz := hf.size
  have hl := h.lt
  have ho := h.old
  have hne := h.ne
  refine ⟨by omega, h.ne, h.old, by rw [hf.block _ (by omega) (by omega)]; exact h.o, h.b.fr hf (by omega) (by decide), ?_, ?_⟩
  · rw [← partB_set L hL j hj]; exact h.out.set j _
  · exact ((Fr.of_below h.fr).trans hf (fun i _ h => h)).to_below (fun i hi => by omega)

set_option maxRecDepth 100000 in
set_option maxHeartbeats 4000000 in
theorem Block_any (w : World) (key nonce : List UInt8) (ctr : BitVec 32) (hk : key.length = 32) (hn : nonce.length = 12) :
    Calls Try.prog 38 #[.agg (bs key).toArray, .int .u32 (wv ctr), .agg (bs nonce).toArray] w fun e w' => e = .returned (.agg (bs (blockP key ctr nonce)).toArray) ∧ Below w.heap.size w w' := by
  have Hk := Lib.hid hk; have Hn := Lib.hid hn
  obtain ⟨io, hio, hzo, hso, _⟩ := info_parts Try.infoO
  obtain ⟨is_, his, hzs, hss, _⟩ := info_parts Try.infoS
  have Hio := Lib.hid hio; have Hzo := Lib.hid hzo; have His := Lib.hid his; have Hzs := Lib.hid hzs
  have u1 := Lib.hid Try.underlying23
  have u2 := Lib.hid Try.underlying25
  have i1 : Hid ((Try.prog.info? 23).map (·.size) = some (bs key).length) := by rw [bs_length, hk]; exact Try.sizeK
  have i2 : Hid ((Try.prog.info? 25).map (·.size) = some (bs nonce).length) := by rw [bs_length, hn]; exact Try.sizeN
  clear hio hzo his hzs hk hn
  have hK2 := Lib.hid (heap_alloc2_old w (.cells (bs key).toArray 23) (.cells (bs nonce).toArray 25))
  have hN2 := Lib.hid (heap_alloc2_new w (.cells (bs key).toArray 23) (.cells (bs nonce).toArray 25))
  have hB2 : Hid (Below w.heap.size w ((w.alloc (.cells (bs key).toArray 23)).alloc (.cells (bs nonce).toArray 25))) := ((Below.refl _ _).alloc (Nat.le_refl _) _).alloc (by simp) _
  have hz2 : Hid (((w.alloc (.cells (bs key).toArray 23)).alloc (.cells (bs nonce).toArray 25)).heap.size = w.heap.size + 2) := by show _ = _; simp
  go_enter Try.func38, Try.ntmps38
  go_wp2_with (first
    | ((with_reducible refine lst_alloc_abs 61 rfl io _ Hio.out Hzo.out ?_ ?_)
       (focus rfl)
       intro g1 w1 Hg1 Hh1 hb1
       have Hb1 := Lib.hid hb1
       have r1 : Hid (w1.rangeAt w.heap.size 0 (bs key)) := range_block (by rw [hb1.block _ (by have := hz2.out; omega)]; exact hK2.out)
       have r2 : Hid (w1.rangeAt (w.heap.size + 1) 0 (bs nonce)) := range_block (by rw [hb1.block _ (by have := hz2.out; omega)]; exact hN2.out)
       clear hb1)
    | ((with_reducible refine lst_load_mid 23 _ rfl w.heap.size 0 rfl (bs key) _ r1.out u1.out rfl i1.out ?_ ?_)
       (focus rfl))
    | ((with_reducible refine lst_load_mid 25 _ rfl (w.heap.size + 1) 0 rfl (bs nonce) _ r2.out u2.out rfl i2.out ?_ ?_)
       (focus rfl)))
  have hz1 := Hg1.out.2
  have e1 := Hg1.out.1
  have hzz := hz2.out
  rw [hzz] at hz1 e1
  have hW1 : Hid (Below w.heap.size w w1) := hB2.out.trans (Hb1.out.mono (by omega))
  clear hK2 hN2 r1 r2 u1 u2 i1 i2 hB2 Hb1 hz2 hzz Hg1
  refine (begins_any w1 key nonce ctr Hk.out Hn.out).mono ?_
  rintro e w2 ⟨rfl, hb2⟩
  obtain ⟨B, hB⟩ : ∃ B, B = beginP key ctr nonce := ⟨_, rfl⟩
  rw [← hB]
  have HB := Lib.hid hB
  have HL : Hid (B.length = 16) := by rw [hB]; rfl
  clear hB
  have hsz2 := hb2.size
  have O2 : Hid (w2.heap[g1]? = some (.cells (bs (List.replicate 64 0)).toArray 61 (0, 0))) := by
    rw [hb2.block _ (by omega)]; exact Hh1.out
  have hW2 : Hid (Below w.heap.size w w2) := hW1.out.trans (hb2.mono (by omega))
  have hg1w : g1 < w2.heap.size := by omega
  have hg1o : w.heap.size ≤ g1 := by omega
  clear hb2 Hh1 hW1 hz1 e1 hsz2
  have iS : Hid ((Try.prog.info? 91).map (·.size) = some (wl B).length) := by rw [wl_length, HL.out]; exact Try.sizeS
  have uS := Lib.hid Try.underlying91
  go_wp2_with (first
    | ((with_reducible refine lst_alloc_d 7 rfl 91 rfl is_ _ His.out Hzs.out ?_ ?_)
       (focus rfl)
       intro g7 w3 Hg7 Hh7 hb3
       have Hb3 := Lib.hid hb3
       have Hh7' : Hid (w3.heap[g7]? = some (.cells (wl (List.replicate 16 0)).toArray 91 (0, 0))) := Hh7
       clear hb3)
    | ((with_reducible refine lst_store_abs 91 (.tmp 7) (.tmp 16) rfl g7 91 (wl (List.replicate 16 0)).toArray (wl B).toArray rfl rfl Hh7'.out (by simpa using iS.out) (by simp [wl_length, HL.out]) (by simp; exact wl_oneCell _) ?_ ?_)
       (focus rfl)
       intro w4 Hh4 hg4
       have Hg4 := Lib.hid hg4
       have r4 := Lib.hid (range_block Hh4.out)
       clear hg4)
    | ((with_reducible refine lst_load_mid 91 (.tmp 7) rfl g7 0 rfl (wl B) _ r4.out uS.out rfl iS.out ?_ ?_)
       (focus rfl))
    | ((with_reducible refine lst_alloc_d 8 rfl 91 rfl is_ _ His.out Hzs.out ?_ ?_)
       (focus rfl)
       intro g8 w5 Hg8 Hh8 hb5
       have Hb5 := Lib.hid hb5
       have Hh8' : Hid (w5.heap[g8]? = some (.cells (wl (List.replicate 16 0)).toArray 91 (0, 0))) := Hh8
       clear hb5)
    | ((with_reducible refine lst_store_abs 91 (.tmp 8) (.tmp 17) rfl g8 91 (wl (List.replicate 16 0)).toArray (wl B).toArray rfl rfl Hh8'.out (by simpa using iS.out) (by simp [wl_length, HL.out]) (by simp; exact wl_oneCell _) ?_ ?_)
       (focus rfl)
       intro w6 Hh6 hg6
       have Hg6 := Lib.hid hg6
       clear hg6))
  have z3 := Hg7.out.2
  have z4 := Hg4.out.size
  have z5 := Hg8.out.2
  have z6 := Hg6.out.size
  have e7 := Hg7.out.1
  have e8 := Hg8.out.1
  have c24 : Below w2.heap.size w2 w4 := Hb3.out.grown Hg4.out (by omega) (fun j hj => by injection hj with hj; omega)
  have c46 : Below w4.heap.size w4 w6 := Hb5.out.grown Hg6.out (by omega) (fun j hj => by injection hj with hj; omega)
  have c26 : Below w2.heap.size w2 w6 := c24.trans (c46.mono (by omega))
  have hz26 := c26.size
  have hz46 := c46.size
  have W6 : Hid (Below w.heap.size w w6) := hW2.out.trans (c26.mono hW2.out.size)
  have O6 : Hid (w6.heap[g1]? = some (.cells (bs (List.replicate 64 0)).toArray 61 (0, 0))) := by
    rw [c26.block _ (by omega)]; exact O2.out
  have q7 : Hid (SqB w6 91 g7 16 16 B) := SqB.of_block (by rw [c46.block _ (by omega)]; exact Hh4.out) rfl HL.out (by decide)
  have q8 : Hid (SqB w6 91 g8 16 16 B) := SqB.of_block Hh6.out rfl HL.out (by decide)
  have g78 : g7 ≠ g8 := by omega
  have g18 : g1 ≠ g8 := by omega
  have g17 : g1 ≠ g7 := by omega
  have g7w : g7 < w6.heap.size := by omega
  have g8w : g8 < w6.heap.size := by omega
  have g1w : g1 < w6.heap.size := by omega
  have hw8 : w.heap.size ≤ g8 := by have := hW2.out.size; omega
  clear z3 z4 z5 z6 e7 e8 c24 c46 c26 hz26 hz46 hg1w Hg7 Hg8 Hg4 Hg6 Hb3 Hb5 Hh4 Hh6 Hh7 Hh8 Hh7' Hh8' r4 O2 hW2
  refine (rounds_any w6 g8 16 B q8.out).mono ?_
  rintro e w7 ⟨rfl, h8, f7⟩
  obtain ⟨S, hS⟩ : ∃ S, S = turns B 80 := ⟨_, rfl⟩
  rw [← hS] at h8
  have HS := Lib.hid hS
  have HSL : Hid (S.length = 16) := by rw [hS, turns_len]; exact HL.out
  clear hS
  have q8' := Lib.hid h8
  have q7' : Hid (SqB w7 91 g7 16 16 B) := q7.out.fr f7 g78 (by decide)
  have O7 : Hid (w7.heap[g1]? = some (.cells (bs (List.replicate 64 0)).toArray 61 (0, 0))) := by
    rw [f7.block _ g1w g18]; exact O6.out
  have W7 : Hid (Below w.heap.size w w7) := ((Fr.of_below W6.out).trans (M := NoB) f7 (fun i hi h => by omega)).to_below (fun _ _ h => h)
  have z7 := f7.size
  clear h8 f7 q7 q8 O6 W6
  have iS8 : Hid ((Try.prog.info? 91).map (·.size) = some (wl S).length) := by rw [wl_length, HSL.out]; exact Try.sizeS
  go_wp2_with (first
    | ((with_reducible refine lst_alloc_d 9 rfl 61 rfl io _ Hio.out Hzo.out ?_ ?_)
       (focus rfl)
       intro g9 w8 Hg9 Hh9 hb8
       have Hb8 := Lib.hid hb8
       have r8 : Hid (w8.rangeAt g8 0 (wl S)) := (q8'.out.fr (Fr.of_below (M := NoB) hb8) id (by decide)).range
       clear hb8)
    | ((with_reducible refine lst_load_mid 91 (.tmp 8) rfl g8 0 rfl (wl S) _ r8.out uS.out rfl iS8.out ?_ ?_)
       (focus rfl)))
  obtain ⟨L, hL⟩ : ∃ L, L = outP S B := ⟨_, rfl⟩
  have HL2 := Lib.hid hL
  have HLL : Hid (L.length = 64) := by rw [hL]; exact outP_len _ _
  clear hL
  have hI : Hid (KInv w w8 g1 g7 g9 B L 0) := by
    have e9 := Hg9.out.1
    have z8 := Hg9.out.2
    have := W7.out.size
    refine ⟨by omega, by omega, by omega, ?_, q7'.out.fr (Fr.of_below (M := NoB) Hb8.out) id (by decide), ByB.of_block Hh9.out rfl rfl (by decide), W7.out.trans (Hb8.out.mono (by omega))⟩
    rw [Hb8.out.block _ (by omega)]; exact O7.out
  clear q8' q7' O7 W7 z7 iS8 Hg9 Hh9 Hb8 r8 hw8 g1w g7w g8w g18 g17 g78 His Hzs Hio Hzo iS
  go_loopw [20] (fun i w' => ∃ i_ : Nat, i_ ≤ 16 ∧ i = .int .i64 (i_ : Nat) ∧ Hid (KInv w w' g1 g7 g9 B L (4 * i_))) (fun i _ => 16 - (intOf i).toNat)
  case atStart => exact ⟨0, Nat.zero_le _, rfl, hI.out⟩
  case round =>
    obtain ⟨i, hi, rfl, hI⟩ := hrel
    by_cases hlt : i < 16
    · have hkI : (i : Int) < 16 := by omega
      have hk0 : (0 : Int) ≤ (i : Int) := by omega
      have hix := Lib.hid (run_index_sq wr 91 16 S uS.out HSL.out i hlt)
      have hc := hI.out.b.cell (i := i) (by omega)
      have ha := add32 (gw S i) (gw B i)
      go_wp2_with (first
        | ((with_reducible refine lst_index 91 (.tmp 19) (.tmp 20) rfl (.agg (wl S).toArray) (.int .i64 (i : Nat)) _ rfl rfl hix.out ?_ ?_)
           (focus rfl)))
      obtain ⟨x, hx⟩ : ∃ x, x = gw S i + gw B i := ⟨_, rfl⟩
      rw [← hx] at ha
      rw [ha]
      clear hix hc ha
      have Hx := Lib.hid hx
      clear hx
      have hxb := wv_lt x
      go_loopw [29] (fun k w' => ∃ k_ : Nat, k_ ≤ 4 ∧ k = .int .i64 (k_ : Nat) ∧ Hid (KInv w w' g1 g7 g9 B L (4 * i + k_))) (fun k _ => 4 - (intOf k).toNat)
      case atStart => exact ⟨0, Nat.zero_le _, rfl, hI.out⟩
      case round =>
        clear hI
        obtain ⟨k, hk, rfl, hI⟩ := hrel
        by_cases hlt2 : k < 4
        · have hkI2 : (k : Int) < 4 := by omega
          have hk02 : (0 : Int) ≤ (k : Int) := by omega
          have hc := hI.out.out.cell (i := 4 * i + k) (by rw [partB_len L HLL.out _ (by omega)]; omega)
          have hz := World.ownsRow.frozenAt hI.out.out (4 * i + k)
          go_wp2_with fail
          refine ⟨⟨k + 1, by omega, by go_num, ?_⟩, by simp [intOf]; omega⟩
          refine hI.out.step HLL.out (by omega) _ ?_
          rw [bv_byteOf, Hx.out]
          have h := outP_get S B i k hlt hlt2 (by rw [outP_len]; omega)
          congr 1
          rw [← h]
          congr 1
          exact HL2.out.symm
        · have hkI2 : decide ((k : Int) < 4) = false := decide_eq_false (by omega)
          have hk4 : k = 4 := by omega
          rw [hk4] at hI
          clear hlt2 hk hk4 hxb
          go_wp2_with fail
          go_roundw
          case rel => exact ⟨i + 1, by omega, by go_num, hI.out⟩
          case measure => simp [intOf]; omega
    · have hkI : decide ((i : Int) < 16) = false := decide_eq_false (by omega)
      have hk4 : i = 16 := by omega
      rw [hk4] at hI
      clear hlt hi hk4
      have hout : Hid (wr.rangeAt g9 0 (bs L)) := by
        have e : partB L (4 * 16) = L := by unfold partB; rw [List.take_of_length_le (by rw [HLL.out]; decide)]; simp
        have h := hI.out.out
        rw [e] at h
        exact h.range
      have uO := Lib.hid Try.underlying61
      have iO : Hid ((Try.prog.info? 61).map (·.size) = some (bs L).length) := by rw [bs_length, HLL.out]; exact Try.sizeO
      go_wp2_with (first
        | ((with_reducible refine lst_load_mid 61 (.tmp 9) rfl g9 0 rfl (bs L) _ hout.out uO.out rfl iO.out ?_ ?_)
           (focus rfl))
        | ((with_reducible refine lst_store_abs 61 (.tmp 6) (.tmp 44) rfl g1 61 (bs (List.replicate 64 0)).toArray (bs L).toArray rfl rfl hI.out.o (by simpa using iO.out) (by simp [bs_length, HLL.out]) (by simp; exact bs_oneCell _) ?_ ?_)
           (focus rfl)
           intro w10 Hh10 hg10))
      refine bodyPost_ret (v := .agg (bs L).toArray) ?_ rfl ⟨by rw [HL2.out, HS.out, HB.out]; rfl, ?_⟩
      · exact results_cell Try.results38 rfl (run_loadVar_mid w10 g1 0 61 (bs L) _ (range_block Hh10.out) uO.out rfl iO.out)
      · exact hI.out.fr.grown hg10 hI.out.fr.size (fun j hj => by injection hj with hj; omega)
end Go.Proofs.Ytklclbppdoahjaa
/- Arms of the walk within a fence: long loads, stores, allocs, indices. -/
namespace Go.Proofs.Ytklclbppdoahjaa
set_option maxRecDepth 100000
open Go.RowKit
abbrev WideF (F : Fence) : Prop := F = Fence.wide ∨ ∃ l, F = Fence.wide.inRound l
section
variable {P : Program} {Q : Exit → Act → World → Prop} {F : Fence} {n : Nat}
theorem op_in0 {o : Oper} {a : Act} {w : World} {K : Act → World → Prop} (h : o.wp P a w K Q) : o.wpIn Fence.wide n P a w K Q := by
  refine ⟨fun f _ => trivial, ?_⟩
  show o.uponIn _ n P a K Q ((Oper.semAt none a.eval o).run P w)
  have e : Oper.semAt none a.eval o = execOp a.eval o := by simp [Oper.semAt]
  rw [e]
  unfold Oper.wp at h
  generalize (execOp a.eval o).run P w = r at h
  cases r with
  | ok x w' =>
    cases x <;> simp only [Oper.upon] at h <;> simp only [Oper.uponIn] <;> first
      | exact h
      | exact ⟨fun h => (by cases h), callsIn_wide.2 h⟩
      | exact ⟨fun h => (by cases h), fun c cs _ => (by
          obtain ⟨v, w2, hr, hs⟩ := h c cs
          exact ⟨v, w2, hr, stepsIn_wide.2 hs⟩)⟩
  | halt x w' => cases x <;> simp only [Oper.upon] at h <;> simp only [Oper.uponIn] <;> exact h
theorem op_inW (hF : WideF F) {o : Oper} {a : Act} {w : World} {K : Act → World → Prop} (hd : ∀ c, o.op ≠ .defer c) (h : o.wp P a w K Q) : o.wpIn F n P a w K Q := by
  rcases hF with rfl | ⟨l, rfl⟩
  · exact op_in0 h
  · exact op_in hd h
variable {ops : Array Oper} {rest : List Oper} {o : Oper} {a : Act} {w : World}
theorem lin_load_mid (hF : WideF F) (T : TypeId) (x : Operand) (ho : o.op = .load T x) (b off : Nat) (hx : a.eval x = .pointer (some ⟨b, off, none⟩)) (cs : List Value) (d : TypeDesc) (hc : w.rangeAt b off cs)
    (hu : P.underlying T = some d) (hd : d.isRow = true) (hi : (P.info? T).map (·.size) = some cs.length) (hw : Region.wanted o (yielded ops a.tmps) = true)
    (h : wpListIn F n P ops Q rest (a.put o.dst (.agg cs.toArray)) w) : wpListIn F n P ops Q (o :: rest) a w :=
  BigFrame.wpListIn_want hw fun _ hK => op_inW hF (by rw [ho]; intro c e; cases e) (wp_load_mid T x ho b off hx cs d hc hu hd hi (hK _ _ h))
theorem lin_alloc_d (hF : WideF F) (d : Nat) (hd : o.dst = some d) (T : TypeId) (ho : o.op = .alloc T) (i : TypeInfo) (z : Value) (hi : P.info? T = some i) (hz : i.zero = some z) (hw : Region.wanted o (yielded ops a.tmps) = true)
    (hk : ∀ g w', Hid (g = w.heap.size ∧ w'.heap.size = w.heap.size + 1) → Hid (w'.heap[g]? = some (.cells z.cells T (0, 0))) → Below w.heap.size w w' → wpListIn F n P ops Q rest (a.put (some d) (.pointer (some ⟨g, 0, none⟩))) w') : wpListIn F n P ops Q (o :: rest) a w :=
  BigFrame.wpListIn_want hw fun _ hK => op_inW hF (by rw [ho]; intro c e; cases e) (wp_alloc_abs T ho i z hi hz fun g w' h1 h2 h3 => hK _ _ (by rw [hd]; exact hk g w' h1 h2 h3))
theorem lin_store_abs (hF : WideF F) (T : TypeId) (x y : Operand) (ho : o.op = .store T x y) (g : Nat) (t : TypeId) (c c' : Array Value)
    (hx : a.eval x = .pointer (some ⟨g, 0, none⟩)) (hy : a.eval y = .agg c') (hg : w.heap[g]? = some (.cells c t (0, 0))) (hi : (P.info? T).map (·.size) = some c'.size) (hc : c.size = c'.size) (h1 : c'.all (·.oneCell') = true)
    (hw : Region.wanted o (yielded ops a.tmps) = true)
    (hk : ∀ w', Hid (w'.heap[g]? = some (.cells c' t (0, 0))) → w.grownBy w' (some g) → wpListIn F n P ops Q rest (a.put o.dst undef) w') : wpListIn F n P ops Q (o :: rest) a w :=
  BigFrame.wpListIn_want hw fun _ hK => op_inW hF (by rw [ho]; intro c e; cases e) (wp_store_abs T x y ho g t c c' hx hy hg hi hc h1 fun w' h2 h3 => hK _ _ (hk w' h2 h3))
theorem lin_index (hF : WideF F) (T : TypeId) (x y : Operand) (ho : o.op = .index T x y) (X Y v : Value) (hx : a.eval x = X) (hy : a.eval y = Y)
    (hr : (Instr.index T X Y).run P w = .ok v w) (hw : Region.wanted o (yielded ops a.tmps) = true) (h : wpListIn F n P ops Q rest (a.put o.dst v) w) : wpListIn F n P ops Q (o :: rest) a w :=
  BigFrame.wpListIn_want hw fun K hK => op_inW hF (by rw [ho]; intro c e; cases e) (by
    unfold Oper.wp execOp
    simp only [ho, hx, hy, Sem.run_bind, hr, Result.andThen_ok, Sem.run_pure]
    exact hK _ _ h)
end
end Go.Proofs.Ytklclbppdoahjaa
/- The stream. -/
namespace Go.Proofs.Ytklclbppdoahjaa
set_option maxRecDepth 100000
open Go.RowKit
attribute [local go_sem] Oper.semAt_some yld yldUpon_value

theorem stream_any (w : World) (key nonce : List UInt8) (ctr : BitVec 32) :
    Calls Try.prog 28 #[.agg (bs key).toArray, .int .u32 (wv ctr), .agg (bs nonce).toArray] w fun e w' =>
      e = .returned (.func (.func 37) #[] #[.pointer (some ⟨w.heap.size, 0, none⟩), .pointer (some ⟨w.heap.size + 1, 0, none⟩), .pointer (some ⟨w.heap.size + 2, 0, none⟩)]) ∧
      w' = ((w.alloc (.cells (bs key).toArray 23)).alloc (.cells #[.int .u32 (wv ctr)] 49)).alloc (.cells (bs nonce).toArray 25) := by
  go_enter Try.func28, Try.ntmps28
  go_wp2
  go_ret
  exact ⟨rfl, rfl⟩

/-- what a round is handed -/
def ArgS (key : List UInt8) (ctr : BitVec 32) (nonce : List UInt8) (k : Nat) (_ _ : World) (args : Array Value) : Prop := args = #[.agg (bs (blockP key (ctr + BitVec.ofNat 32 k) nonce)).toArray]
def cntAt (B : Nat) (w : World) : BitVec 32 := match w.cell? ⟨B, 0, none⟩ with | some (.int _ n) => BitVec.ofInt 32 n | _ => 0
theorem cnt_le (ctr : BitVec 32) (k : Nat) (h : k < 4294967296) : (ctr + BitVec.ofNat 32 k - ctr).toNat = k := by
  have : ctr + BitVec.ofNat 32 k - ctr = BitVec.ofNat 32 k := by
    rw [BitVec.add_comm]; exact BitVec.add_sub_cancel _ _
  rw [this, BitVec.toNat_ofNat]
  exact Nat.mod_eq_of_lt h

set_option maxRecDepth 100000 in
set_option maxHeartbeats 2000000 in
theorem stream_iter {w0 : World} {Bk Bc Bn : Nat} {key nonce : List UInt8} {ctr : BitVec 32} (hk : key.length = 32) (hn : nonce.length = 12)
    (h1 : w0.heap[Bk]? = some (.cells (bs key).toArray 23 (0, 0))) (h2 : w0.heap[Bc]? = some (.cells #[.int .u32 (wv ctr)] 49 (0, 0))) (h3 : w0.heap[Bn]? = some (.cells (bs nonce).toArray 25 (0, 0)))
    (hd : Bk ≠ Bc ∧ Bn ≠ Bc) (N : Nat) (hN : N ≤ 4294967295) :
    Iter Try.prog 37 #[.pointer (some ⟨Bk, 0, none⟩), .pointer (some ⟨Bc, 0, none⟩), .pointer (some ⟨Bn, 0, none⟩)] (fun j => j = Bk ∨ j = Bc ∨ j = Bn) (fun j => j = Bc) N (ArgS key ctr nonce) True w0 := by
  intro lp J Jx W hW hJ hJx hY hInf h0
  have H1 := Lib.hid h1; have H2 := Lib.hid h2; have H3 := Lib.hid h3; have HW := Lib.hid hW; have HJ := Lib.hid hJ; have HJx := Lib.hid hJx; have HY := Lib.hid hY; have H0 := Lib.hid h0; have HI := Lib.hid (hInf trivial)
  have Hk := Lib.hid hk; have Hn := Lib.hid hn
  have u1 := Lib.hid Try.underlying23
  have u2 := Lib.hid Try.underlying25
  have i1 : Hid ((Try.prog.info? 23).map (·.size) = some (bs key).length) := by rw [bs_length, hk]; exact Try.sizeK
  have i2 : Hid ((Try.prog.info? 25).map (·.size) = some (bs nonce).length) := by rw [bs_length, hn]; exact Try.sizeN
  clear h1 h2 h3 hW hJ hJx hY hInf h0 hk hn
  refine callsIn_of_wp Try.func37 rfl trivial ?_ rfl
  simp only [Try.ntmps37, List.size_toArray, List.length_cons, List.length_nil, Nat.reduceAdd, Nat.reduceSub, Array.replicate_succ, Array.replicate_zero, List.push_toArray, List.append_toArray, List.nil_append, List.cons_append]
  gi_wp2_with fail
  gi_loopw [5] (fun _ wr => ∃ k : Nat, k ≤ N ∧ Hid (wr.heap[Bc]? = some (.cells #[.int .u32 (wv (ctr + BitVec.ofNat 32 k))] 49 (0, 0))) ∧ Hid (J k wr) ∧ Hid (Fr (fun j => ¬ (j = Bk ∨ j = Bc ∨ j = Bn) ∨ j = Bc) W wr))
    (fun _ wr => N - (cntAt Bc wr - ctr).toNat)
  case atStart =>
    have hB := (Array.getElem?_eq_some_iff.1 H2.out).1
    refine ⟨0, Nat.zero_le _, ?_, H0.out, Fr.refl _ _⟩
    have : ctr + BitVec.ofNat 32 0 = ctr := by simp
    rw [this]
    exact (HW.out.block Bc hB id).trans H2.out
  case round =>
    obtain ⟨k, hk, Hc, Hj, Hf⟩ := hrel
    have hkN : k < N := by
      rcases Nat.lt_or_ge k N with h | h
      · exact h
      · have : k = N := by omega
        subst this
        exact absurd Hj.out (HI.out wr)
    have hlt1 := (Array.getElem?_eq_some_iff.1 H1.out).1
    have hlt3 := (Array.getElem?_eq_some_iff.1 H3.out).1
    have hzW := HW.out.size
    have r1 : Hid (wr.rangeAt Bk 0 (bs key)) := range_block (by rw [Hf.out.block Bk (by omega) (by rintro (h | h); exact h (.inl rfl); exact hd.1 h), HW.out.block Bk hlt1 id]; exact H1.out)
    have r3 : Hid (wr.rangeAt Bn 0 (bs nonce)) := range_block (by rw [Hf.out.block Bn (by omega) (by rintro (h | h); exact h (.inr (.inr rfl)); exact hd.2 h), HW.out.block Bn hlt3 id]; exact H3.out)
    have c2 : wr.cell? ⟨Bc, 0, none⟩ = some (.int .u32 (wv (ctr + BitVec.ofNat 32 k))) := by rw [cell_of_row wr Bc 0 _ _ _ Hc.out]; rfl
    have HYk := Lib.hid (HY.out k)
    gi_wp2_with (first
      | ((with_reducible refine lin_load_mid (.inl rfl) 23 (.tmp 1) rfl Bk 0 rfl (bs key) _ r1.out u1.out rfl i1.out ?_ ?_)
         (focus rfl))
      | ((with_reducible refine lin_load_mid (.inl rfl) 25 (.tmp 3) rfl Bn 0 rfl (bs nonce) _ r3.out u2.out rfl i2.out ?_ ?_)
         (focus rfl)))
    refine ⟨trivial, rfl, (callsIn_wide.2 (Block_any wr key nonce (ctr + BitVec.ofNat 32 k) Hk.out Hn.out)).mono ?_⟩
    rintro e w1 ⟨rfl, hb1⟩
    have hc1 : Hid (w1.heap[Bc]? = some (.cells #[.int .u32 (wv (ctr + BitVec.ofNat 32 k))] 49 (0, 0))) := (hb1.block Bc (Array.getElem?_eq_some_iff.1 Hc.out).1).trans Hc.out
    obtain ⟨fn, tmps, assign, body, hy, hR⟩ := HYk.out wr w1 #[.agg (bs (blockP key (ctr + BitVec.ofNat 32 k) nonce)).toArray] hkN Hj.out (Fr.of_below hb1) rfl
    have Hf1 : Hid (Fr (fun j => ¬ (j = Bk ∨ j = Bc ∨ j = Bn) ∨ j = Bc) W w1) := Hf.out.trans (Fr.of_below (M := NoB) hb1) (fun _ _ h => h.elim)
    have HC2 := Lib.hid c2
    clear hb1 r1 r3 c2 Hc
    gi_wp2_with fail
    refine ⟨rfl, hR.mono ?_⟩
    rintro e W3 (⟨rfl, hJ3, hk3⟩ | ⟨rfl, hJx3⟩)
    · have hc3 : Hid (W3.heap[Bc]? = some (.cells #[.int .u32 (wv (ctr + BitVec.ofNat 32 k))] 49 (0, 0))) := (hk3.block Bc (Array.getElem?_eq_some_iff.1 hc1.out).1 (fun e => e (.inr (.inl rfl)))).trans hc1.out
      have c3 : W3.cell? ⟨Bc, 0, none⟩ = some (.int .u32 (wv (ctr + BitVec.ofNat 32 k))) := by rw [cell_of_row W3 Bc 0 _ _ _ hc3.out]; rfl
      have f3 : W3.frozen? ⟨Bc, 0, none⟩ = false := frozen_of_row W3 Bc 0 _ _ hc3.out
      have hx := add32 (ctr + BitVec.ofNat 32 k) 1
      have e1 : wv 1 = 1 := rfl
      rw [e1] at hx
      have hxx : ctr + BitVec.ofNat 32 k + 1 = ctr + BitVec.ofNat 32 (k + 1) := by
        rw [BitVec.add_assoc]; congr 1; apply BitVec.eq_of_toNat_eq; simp [BitVec.toNat_add, BitVec.toNat_ofNat]
      rw [hxx] at hx
      have Hfr3 : Hid (Fr (fun j => ¬ (j = Bk ∨ j = Bc ∨ j = Bn) ∨ j = Bc) W W3) := Hf1.out.trans (hk3.mono fun _ _ h => .inl h) (fun _ _ h => h)
      have HJ3 := Lib.hid hJ3
      have Hc3s := Lib.hid (Boxed.set (.int .u32 (wv (ctr + BitVec.ofNat 32 (k + 1)))) (show Boxed W3 Bc _ _ from hc3.out))
      have HkN := Lib.hid hkN
      clear hy hR hJ3 hk3 hc1 Hf1 hxx e1 Hf Hj hkN hk
      gi_wp2_with fail
      refine ⟨⟨k + 1, HkN.out, Hc3s.out, HJ.out _ _ _ HJ3.out (Fr.of_grown (grownBy_setCell' W3 Bc _) |>.mono fun j _ e => by injection e), Hfr3.out.setCell (p := ⟨Bc, 0, none⟩) (.inl (.inr rfl)) _⟩, ?_⟩
      have q1 : cntAt Bc (W3.setCell ⟨Bc, 0, none⟩ (.int .u32 (wv (ctr + BitVec.ofNat 32 (k + 1))))) = ctr + BitVec.ofNat 32 (k + 1) := by
        unfold cntAt; rw [Hc3s.out.cell]; exact ofInt_wv _
      have q2 : cntAt Bc wr = ctr + BitVec.ofNat 32 k := by
        unfold cntAt; rw [HC2.out]; exact ofInt_wv _
      have := HkN.out
      rw [q1, q2, cnt_le ctr (k + 1) (by omega), cnt_le ctr k (by omega)]
      omega
    · gi_wp2_with fail
      go_end0
      exact ⟨⟨_, rfl⟩, .inr hJx3⟩
end Go.Proofs.Ytklclbppdoahjaa
/- chacha.Xor. -/
namespace Go.Proofs.Ytklclbppdoahjaa
set_option maxRecDepth 100000
open Go.RowKit
attribute [local go_sem] Oper.semAt_some yld yldUpon_value

theorem xor_byte (a b : UInt8) : bits .xor .u8 (a.toNat : Int) (b.toNat : Int) = ((a ^^^ b).toNat : Int) := by
  show IntKind.u8.wrap ((BitVec.ofInt _ _ ^^^ BitVec.ofInt _ _).toNat : Int) = _
  have e : ∀ u : UInt8, BitVec.ofInt (IntKind.u8.bits) (u.toNat : Int) = u.toBitVec := fun u => by
    apply BitVec.eq_of_toNat_eq
    have := u.toNat_lt
    show (BitVec.ofInt 8 _).toNat = _
    rw [BitVec.toNat_ofInt]
    simp only [Nat.reducePow]
    show _ = u.toNat
    omega
  rw [e, e]
  have h := (a ^^^ b).toNat_lt
  show IntKind.u8.wrap ((a ^^^ b).toNat : Int) = _
  generalize (a ^^^ b).toNat = x at h
  simp [IntKind.wrap, IntKind.signed, IntKind.bits]
  omega
/-- bytes xored with the stream's -/
def ksP (key : List UInt8) (ctr : BitVec 32) (nonce : List UInt8) (j : Nat) : UInt8 := (blockP key (ctr + BitVec.ofNat 32 (j / 64)) nonce).getD (j % 64) 0
def xorP (key : List UInt8) (ctr : BitVec 32) (nonce : List UInt8) (b : List UInt8) : List UInt8 := (List.range b.length).map fun j => b.getD j 0 ^^^ ksP key ctr nonce j
theorem xorP_len (key : List UInt8) (ctr : BitVec 32) (nonce b : List UInt8) : (xorP key ctr nonce b).length = b.length := by simp [xorP]

theorem own_frC {w w' : World} {base e size n : Nat} {v : Value} {xs : List Value} {M : Nat → Prop} (h : w.ownsRow base e size v n xs) (hf : Fr M w w') (hM : ∀ k, v.ownBlock = some k → ¬ M k) : w'.ownsRow base e size v n xs := by
  refine ⟨h.1, ?_⟩
  rcases h.2 with hn | ⟨g, cap, cur, rfl, hb, hgg, rest⟩
  · exact .inl hn
  · refine .inr ⟨g, cap, cur, rfl, hb, ?_, rest⟩
    rw [hf.block g (Array.getElem?_eq_some_iff.1 hgg).1 (hM g rfl)]
    exact hgg
theorem Boxed.fr' {W W' : World} {B : Nat} {t : TypeId} {v : Value} {M : Nat → Prop} (h : Boxed W B t v) (hf : Fr M W W') (hM : ¬ M B) : Boxed W' B t v := (hf.block B h.lt hM).trans h
theorem stream_boxes (w : World) (key nonce : List UInt8) (ctr : BitVec 32) (W : World) (hW : W = ((w.alloc (.cells (bs key).toArray 23)).alloc (.cells #[.int .u32 (wv ctr)] 49)).alloc (.cells (bs nonce).toArray 25)) :
    W.heap[w.heap.size]? = some (.cells (bs key).toArray 23 (0, 0)) ∧ W.heap[w.heap.size + 1]? = some (.cells #[.int .u32 (wv ctr)] 49 (0, 0)) ∧ W.heap[w.heap.size + 2]? = some (.cells (bs nonce).toArray 25 (0, 0)) ∧ W.heap.size = w.heap.size + 3 ∧ Below w.heap.size w W := by
  subst hW
  have a1 := heap_alloc_new w (.cells (bs key).toArray 23)
  generalize hw1 : w.alloc (.cells (bs key).toArray 23) = w1 at a1 ⊢
  have z1 : w1.heap.size = w.heap.size + 1 := by subst hw1; simp
  have b1 : Below w.heap.size w w1 := by subst hw1; exact (Below.refl _ _).alloc (Nat.le_refl _) _
  have a2 := heap_alloc_new w1 (.cells #[.int .u32 (wv ctr)] 49)
  generalize hw2 : w1.alloc (.cells #[.int .u32 (wv ctr)] 49) = w2 at a2 ⊢
  have z2 : w2.heap.size = w1.heap.size + 1 := by subst hw2; simp
  have b2 : Below w1.heap.size w1 w2 := by subst hw2; exact (Below.refl _ _).alloc (Nat.le_refl _) _
  have a3 := heap_alloc_new w2 (.cells (bs nonce).toArray 25)
  generalize hw3 : w2.alloc (.cells (bs nonce).toArray 25) = w3 at a3 ⊢
  have z3 : w3.heap.size = w2.heap.size + 1 := by subst hw3; simp
  have b3 : Below w2.heap.size w2 w3 := by subst hw3; exact (Below.refl _ _).alloc (Nat.le_refl _) _
  have b13 : Below w1.heap.size w1 w3 := b2.trans (b3.mono (by omega))
  have e1 : w1.heap.size = w.heap.size + 1 := by omega
  have e2 : w2.heap.size = w.heap.size + 2 := by omega
  refine ⟨(b13.block _ (by omega)).trans a1, ?_, ?_, by omega, b1.trans (b13.mono (by omega))⟩
  · rw [← e1]; exact (b3.block _ (by omega)).trans a2
  · rw [← e2]; exact a3
/-- the boxes that Xor lays -/
structure XB (w W : World) (key nonce : List UInt8) (v : Value) : Prop where
  k : W.heap[w.heap.size]? = some (.cells (bs key).toArray 23 (0, 0))
  n : W.heap[w.heap.size + 1]? = some (.cells (bs nonce).toArray 25 (0, 0))
  b : Boxed W (w.heap.size + 2) 26 v
  r : Boxed W (w.heap.size + 3) 26 (.slice none 0 0)
  sz : w.heap.size + 4 ≤ W.heap.size
  fr : Below w.heap.size w W
theorem XB.start (w : World) (key nonce : List UInt8) (v : Value) :
    XB w ((((w.alloc (.cells (bs key).toArray 23)).alloc (.cells (bs nonce).toArray 25)).alloc (.cells #[v] 26)).alloc (.cells #[.slice none 0 0] 26)) key nonce v := by
  have a1 := heap_alloc_new w (.cells (bs key).toArray 23)
  generalize hw1 : w.alloc (.cells (bs key).toArray 23) = w1 at a1 ⊢
  have z1 : w1.heap.size = w.heap.size + 1 := by subst hw1; simp
  have b1 : Below w.heap.size w w1 := by subst hw1; exact (Below.refl _ _).alloc (Nat.le_refl _) _
  have a2 := heap_alloc_new w1 (.cells (bs nonce).toArray 25)
  generalize hw2 : w1.alloc (.cells (bs nonce).toArray 25) = w2 at a2 ⊢
  have z2 : w2.heap.size = w1.heap.size + 1 := by subst hw2; simp
  have b2 : Below w1.heap.size w1 w2 := by subst hw2; exact (Below.refl _ _).alloc (Nat.le_refl _) _
  have a3 : Boxed (w2.alloc (.cells #[v] 26)) w2.heap.size 26 v := Boxed.new w2 _ v
  generalize hw3 : w2.alloc (.cells #[v] 26) = w3 at a3 ⊢
  have z3 : w3.heap.size = w2.heap.size + 1 := by subst hw3; simp
  have b3 : Below w2.heap.size w2 w3 := by subst hw3; exact (Below.refl _ _).alloc (Nat.le_refl _) _
  have a4 : Boxed (w3.alloc (.cells #[.slice none 0 0] 26)) w3.heap.size 26 (.slice none 0 0) := Boxed.new w3 _ _
  generalize hw4 : w3.alloc (.cells #[.slice none 0 0] 26) = w4 at a4 ⊢
  have z4 : w4.heap.size = w3.heap.size + 1 := by subst hw4; simp
  have b4 : Below w3.heap.size w3 w4 := by subst hw4; exact (Below.refl _ _).alloc (Nat.le_refl _) _
  have b24 : Below w2.heap.size w2 w4 := b3.trans (b4.mono (by omega))
  have b14 : Below w1.heap.size w1 w4 := b2.trans (b24.mono (by omega))
  have e1 : w1.heap.size = w.heap.size + 1 := by omega
  have e2 : w2.heap.size = w.heap.size + 2 := by omega
  have e3 : w3.heap.size = w.heap.size + 3 := by omega
  refine ⟨(b14.block _ (by omega)).trans a1, ?_, ?_, ?_, by omega, b1.trans (b14.mono (by omega))⟩
  · rw [← e1]; exact (b24.block _ (by omega)).trans a2
  · rw [← e2]; exact (b4.block _ (by omega)).trans a3
  · rw [← e3]; exact a4
theorem XB.frm {w W W' : World} {key nonce : List UInt8} {v : Value} (h : XB w W key nonce v) {M : Nat → Prop} (hf : Fr M W W') (hM : ∀ j, M j → w.heap.size + 4 ≤ j) : XB w W' key nonce v := by
  have hs := h.sz
  have hz := hf.size
  refine ⟨(hf.block _ (by omega) (fun e => by have := hM _ e; omega)).trans h.k, (hf.block _ (by omega) (fun e => by have := hM _ e; omega)).trans h.n, (hf.block _ (by omega) (fun e => by have := hM _ e; omega)).trans h.b,
    (hf.block _ (by omega) (fun e => by have := hM _ e; omega)).trans h.r, by omega, ?_⟩
  exact ((Fr.of_below h.fr).trans (M := fun j => w.heap.size + 4 ≤ j) hf (fun i _ h => hM _ h)).to_below (fun i hi => by omega)

theorem Fr.to_below' {M : Nat → Prop} {a b : World} {B : Nat} (h : Fr M a b) (hM : ∀ j, j < B → ¬ M j) (hB : B ≤ a.heap.size) : Below B a b := ⟨h.os, h.tape, h.output, h.size, fun i hi => h.block i (by omega) (hM i hi)⟩
/-- m bytes are made -/
structure XI (w W : World) (key nonce : List UInt8) (v : Value) (L : List UInt8) (g9 m : Nat) (A' : Option Addr) (c' : Nat) : Prop where
  x : XB w W key nonce v
  o : Boxed W g9 26 (.slice A' m c')
  own : W.ownsRow (w.heap.size + 4) 5 1 (.slice A' m c') m (bs (L.take m))
  blk : ∀ j, (Value.slice A' m c').ownBlock = some j → j = w.heap.size + 4 ∨ g9 + 6 ≤ j
  hi : w.heap.size + 4 < g9
theorem XI.frm {w W W' : World} {key nonce : List UInt8} {v : Value} {L : List UInt8} {g9 m c' : Nat} {A' : Option Addr} (h : XI w W key nonce v L g9 m A' c') {M : Nat → Prop} (hf : Fr M W W') (hM : ∀ j, M j → g9 < j ∧ j < g9 + 6) : XI w W' key nonce v L g9 m A' c' := by
  have := h.hi
  exact ⟨h.x.frm hf (fun j hj => by have := hM j hj; omega), Boxed.fr' h.o hf (fun e => by have := hM _ e; omega), own_frC h.own hf (fun j hj e => by have := hM _ e; have := h.blk j hj; omega), h.blk, h.hi⟩
/-- how the rounds end early -/
def XEnd (w : World) (key nonce : List UInt8) (v : Value) (L : List UInt8) (g9 n : Nat) (c : Code) (W : World) : Prop :=
  (c = .ret ∧ ∃ A' c', Boxed W (w.heap.size + 3) 26 (.slice A' n c') ∧ W.ownsRow (w.heap.size + 4) 5 1 (.slice A' n c') n (bs L) ∧ (∀ j, (Value.slice A' n c').ownBlock = some j → j = w.heap.size + 4 ∨ g9 + 6 ≤ j) ∧ Below w.heap.size w W ∧ w.heap.size + 4 < g9) ∨
  (c = .exit 0 ∧ ∃ A' c', XI w W key nonce v L g9 n A' c')
theorem XEnd.frm {w W W' : World} {key nonce : List UInt8} {v : Value} {L : List UInt8} {g9 n : Nat} {c : Code} (h : XEnd w key nonce v L g9 n c W) {M : Nat → Prop} (hf : Fr M W W') (hM : ∀ j, M j → g9 < j ∧ j < g9 + 6) : XEnd w key nonce v L g9 n c W' := by
  rcases h with ⟨e, A', c', h1, h2, h3, h4, h5⟩ | ⟨e, A', c', h⟩
  · exact .inl ⟨e, A', c', Boxed.fr' h1 hf (fun e => by have := hM _ e; omega), own_frC h2 hf (fun j hj e => by have := hM _ e; have := h3 j hj; omega), h3, ((Fr.of_below h4).trans (M := M) hf (fun _ _ h => h)).to_below (fun i hi e => by have := hM _ e; omega), h5⟩
  · exact .inr ⟨e, A', c', h.frm hf hM⟩

set_option maxRecDepth 100000 in
set_option maxHeartbeats 4000000 in
theorem Xor_any (w : World) (key nonce : List UInt8) (ctr : BitVec 32) (hk : key.length = 32) (hn : nonce.length = 12) {F : Nat → Prop} {A : Option Addr} {n c : Nat} {b : List UInt8} (hs : Sl w F A n c b) (hF : ∀ k, F k → k < w.heap.size) (hb : n ≤ 1000000) :
    Calls Try.prog 21 #[.agg (bs key).toArray, .int .u32 (wv ctr), .agg (bs nonce).toArray, .slice A n c] w fun e w' => ∃ A' c', e = .returned (.slice A' n c') ∧ w'.ownsRow w.heap.size 5 1 (.slice A' n c') n (bs (xorP key ctr nonce b)) ∧ Below w.heap.size w w' := by
  have Hs := Lib.hid hs; have HF := Lib.hid hF; have Hk := Lib.hid hk; have Hn := Lib.hid hn; have Hb := Lib.hid hb
  clear hs hF hk hn hb
  refine calls_of_marks Try.func21 rfl ?_
  simp only [Try.ntmps21, List.size_toArray, List.length_cons, List.length_nil, Nat.reduceAdd, Nat.reduceSub, Array.replicate_succ, Array.replicate_zero, List.push_toArray, List.append_toArray, List.nil_append, List.cons_append]
  have X4 : Hid (XB w ((((w.alloc (.cells (bs key).toArray 23)).alloc (.cells (bs nonce).toArray 25)).alloc (.cells #[.slice A n c] 26)).alloc (.cells #[.slice none 0 0] 26)) key nonce (.slice A n c)) := XB.start w key nonce _
  have z4 : Hid (((((w.alloc (.cells (bs key).toArray 23)).alloc (.cells (bs nonce).toArray 25)).alloc (.cells #[.slice A n c] 26)).alloc (.cells #[.slice none 0 0] 26)).heap.size = w.heap.size + 4) := by show _ = _; simp
  obtain ⟨i0, hi0, hz0, hz1, hz2⟩ := info_parts Try.infoB
  have Hi0 := Lib.hid hi0; have Hz0 := Lib.hid hz0; have Hz1 := Lib.hid hz1; have Hz2 := Lib.hid hz2
  clear hi0 hz0 hz1 hz2
  have hc : n = 0 ∨ n ≠ 0 := by omega
  rcases hc with hc | hc
  · have hcI : ((n : Int) == 0) = true := by simp [hc]
    have Hc := Lib.hid hc
    clear hc
    go_wp2_with (first
      | (refine wpList_make_own _ rfl (.const (.int .i64 0)) (.tmp 14) 26 rfl (w.heap.size + 4) 5 i0 (.int .u8 0) 1 Try.underlying26 Hi0.out Hz0.out Hz1.out .i64 .i64 (n : Int) n rfl rfl rfl (by rw [Hz2.out]; have := Hb.out; omega) (by have := Hb.out; simp only [maxLen]; omega) (by rw [z4.out]; exact Nat.le_refl _) ?_
         intro w1 hown1 hg1
         have X1 : XB w w1 key nonce (.slice A n c) := X4.out.frm (Fr.of_grown hg1) (fun j e => by cases e)
         have hz1 : w.heap.size + 4 < w1.heap.size := by
           have := (hown1.lt (w.heap.size + 4) (by rw [z4.out]; rfl)).2
           omega
         rw [z4.out] at hown1
         have X5 : Hid (XB w (w1.alloc (.cells #[.slice (some ⟨w.heap.size + 4, 0, none⟩) 0 n] 26)) key nonce (.slice A n c)) := X1.frm ((Fr.refl NoB w1).alloc _) (fun j e => e.elim)
         have O5 : Hid ((w1.alloc (.cells #[.slice (some ⟨w.heap.size + 4, 0, none⟩) 0 n] 26)).ownsRow (w.heap.size + 4) 5 1 (.slice (some ⟨w.heap.size + 4, 0, none⟩) 0 n) 0 []) := hown1.alloc _
         have B9 : Hid (Boxed (w1.alloc (.cells #[.slice (some ⟨w.heap.size + 4, 0, none⟩) 0 n] 26)) w1.heap.size 26 (.slice (some ⟨w.heap.size + 4, 0, none⟩) 0 n)) := Boxed.new _ _ _
         have Z5 : Hid (w.heap.size + 4 < w1.heap.size ∧ (w1.alloc (.cells #[.slice (some ⟨w.heap.size + 4, 0, none⟩) 0 n] 26)).heap.size = w1.heap.size + 1) := by
           show _ ∧ _
           exact ⟨hz1, by simp⟩
         have c7 : (w1.alloc (.cells #[.slice (some ⟨w.heap.size + 4, 0, none⟩) 0 n] 26)).cell? ⟨w.heap.size + 2, 0, none⟩ = some (.slice A n c) := X5.out.b.cell
         have r1 : Hid ((w1.alloc (.cells #[.slice (some ⟨w.heap.size + 4, 0, none⟩) 0 n] 26)).rangeAt w.heap.size 0 (bs key)) := range_block X5.out.k
         have r2 : Hid ((w1.alloc (.cells #[.slice (some ⟨w.heap.size + 4, 0, none⟩) 0 n] 26)).rangeAt (w.heap.size + 1) 0 (bs nonce)) := range_block X5.out.n
         have c9 : (w1.alloc (.cells #[.slice (some ⟨w.heap.size + 4, 0, none⟩) 0 n] 26)).cell? ⟨w1.heap.size, 0, none⟩ = some (.slice (some ⟨w.heap.size + 4, 0, none⟩) 0 n) := B9.out.cell
         have c8 : (w1.alloc (.cells #[.slice (some ⟨w.heap.size + 4, 0, none⟩) 0 n] 26)).cell? ⟨w.heap.size + 3, 0, none⟩ = some (.slice none 0 0) := X5.out.r.cell
         have f8 : (w1.alloc (.cells #[.slice (some ⟨w.heap.size + 4, 0, none⟩) 0 n] 26)).frozen? ⟨w.heap.size + 3, 0, none⟩ = false := X5.out.r.frozen
         clear hown1 hg1 X1 hz1))
    simp only [Nat.add_assoc, Nat.reduceAdd]
    have F8 := (Fr.refl (fun j => j = w.heap.size + 3) (w1.alloc (.cells #[.slice (some ⟨w.heap.size + 4, 0, none⟩) 0 n] 26))).setCell (p := ⟨w.heap.size + 3, 0, none⟩) (.inl rfl) (.slice (some ⟨w.heap.size + 4, 0, none⟩) 0 n)
    have e0 := (Boxed.set (.slice (some ⟨w.heap.size + 4, 0, none⟩) 0 n) X5.out.r).cell
    have hb0 : b = [] := List.eq_nil_of_length_eq_zero (by rw [Hs.out.len]; exact Hc.out)
    have hn0 : n = 0 := Hc.out
    refine ⟨.slice (some ⟨w.heap.size + 4, 0, none⟩) 0 n, by simp [results, Try.results21, go_sem, e0]; try rfl, some ⟨w.heap.size + 4, 0, none⟩, n, by rw [hn0], ?_, ?_⟩
    · have h := own_mono (own_frC O5.out F8 (fun j hj => by injection hj with hj; simp at hj; omega)) (show w.heap.size ≤ w.heap.size + 4 by omega)
      subst hb0
      rw [hn0] at h ⊢
      exact h
    · exact ((Fr.of_below X5.out.fr).trans F8 (fun _ _ h => h)).to_below (fun j hj => by omega)
  · have hcI : ((n : Int) == 0) = false := by simp [hc]
    have u1 := Lib.hid Try.underlying23
    have u2 := Lib.hid Try.underlying25
    have i1 : Hid ((Try.prog.info? 23).map (·.size) = some (bs key).length) := by rw [bs_length, Hk.out]; exact Try.sizeK
    have i2 : Hid ((Try.prog.info? 25).map (·.size) = some (bs nonce).length) := by rw [bs_length, Hn.out]; exact Try.sizeN
    go_wp2_with (first
      | (refine wpList_make_own _ rfl (.const (.int .i64 0)) (.tmp 14) 26 rfl (w.heap.size + 4) 5 i0 (.int .u8 0) 1 Try.underlying26 Hi0.out Hz0.out Hz1.out .i64 .i64 (n : Int) n rfl rfl rfl (by rw [Hz2.out]; have := Hb.out; omega) (by have := Hb.out; simp only [maxLen]; omega) (by rw [z4.out]; exact Nat.le_refl _) ?_
         intro w1 hown1 hg1
         have X1 : XB w w1 key nonce (.slice A n c) := X4.out.frm (Fr.of_grown hg1) (fun j e => by cases e)
         have hz1 : w.heap.size + 4 < w1.heap.size := by
           have := (hown1.lt (w.heap.size + 4) (by rw [z4.out]; rfl)).2
           omega
         rw [z4.out] at hown1
         have X5 : Hid (XB w (w1.alloc (.cells #[.slice (some ⟨w.heap.size + 4, 0, none⟩) 0 n] 26)) key nonce (.slice A n c)) := X1.frm ((Fr.refl NoB w1).alloc _) (fun j e => e.elim)
         have O5 : Hid ((w1.alloc (.cells #[.slice (some ⟨w.heap.size + 4, 0, none⟩) 0 n] 26)).ownsRow (w.heap.size + 4) 5 1 (.slice (some ⟨w.heap.size + 4, 0, none⟩) 0 n) 0 []) := hown1.alloc _
         have B9 : Hid (Boxed (w1.alloc (.cells #[.slice (some ⟨w.heap.size + 4, 0, none⟩) 0 n] 26)) w1.heap.size 26 (.slice (some ⟨w.heap.size + 4, 0, none⟩) 0 n)) := Boxed.new _ _ _
         have Z5 : Hid (w.heap.size + 4 < w1.heap.size ∧ (w1.alloc (.cells #[.slice (some ⟨w.heap.size + 4, 0, none⟩) 0 n] 26)).heap.size = w1.heap.size + 1) := by
           show _ ∧ _
           exact ⟨hz1, by simp⟩
         have c7 : (w1.alloc (.cells #[.slice (some ⟨w.heap.size + 4, 0, none⟩) 0 n] 26)).cell? ⟨w.heap.size + 2, 0, none⟩ = some (.slice A n c) := X5.out.b.cell
         have r1 : Hid ((w1.alloc (.cells #[.slice (some ⟨w.heap.size + 4, 0, none⟩) 0 n] 26)).rangeAt w.heap.size 0 (bs key)) := range_block X5.out.k
         have r2 : Hid ((w1.alloc (.cells #[.slice (some ⟨w.heap.size + 4, 0, none⟩) 0 n] 26)).rangeAt (w.heap.size + 1) 0 (bs nonce)) := range_block X5.out.n
         clear hown1 hg1 X1 hz1)
      | ((with_reducible refine lst_load_mid 23 (.tmp 4) rfl w.heap.size 0 rfl (bs key) _ r1.out u1.out rfl i1.out ?_ ?_)
         (focus rfl))
      | ((with_reducible refine lst_load_mid 25 (.tmp 6) rfl (w.heap.size + 1) 0 rfl (bs nonce) _ r2.out u2.out rfl i2.out ?_ ?_)
         (focus rfl)))
    simp only [Nat.add_assoc, Nat.reduceAdd]
    generalize (w1.alloc (.cells #[.slice (some ⟨w.heap.size + 4, 0, none⟩) 0 n] 26)) = w5 at X5 O5 B9 Z5 c7 r1 r2 ⊢
    generalize w1.heap.size = g9 at B9 Z5 ⊢
    clear c7 r1 r2 u1 u2 i1 i2 X4 z4
    refine (stream_any w5 key nonce ctr).mono ?_
    rintro e w6 ⟨rfl, hw6⟩
    have Y6 := stream_boxes w5 key nonce ctr w6 hw6
    clear hw6
    have Y := Lib.hid Y6
    have f56 := Fr.of_below (M := NoB) Y6.2.2.2.2
    have X6 : Hid (XB w w6 key nonce (.slice A n c)) := X5.out.frm f56 (fun j e => e.elim)
    have z56 : Hid (w6.heap.size = g9 + 4) := by have := Z5.out; have := Y6.2.2.2.1; show _ = _; omega
    have Y1 : Hid (w6.heap[g9 + 1]? = some (.cells (bs key).toArray 23 (0, 0)) ∧ w6.heap[g9 + 1 + 1]? = some (.cells #[.int .u32 (wv ctr)] 49 (0, 0)) ∧ w6.heap[g9 + 1 + 2]? = some (.cells (bs nonce).toArray 25 (0, 0))) := by
      have h := Y6
      rw [show w5.heap.size = g9 + 1 from Z5.out.2] at h
      exact ⟨h.1, h.2.1, h.2.2.1⟩
    have hsz5 := Z5.out.2
    rw [hsz5]
    have B6 : Hid (Boxed w6 g9 26 (.slice (some ⟨w.heap.size + 4, 0, none⟩) 0 n)) := Boxed.fr' B9.out f56 id
    have O6 : Hid (w6.ownsRow (w.heap.size + 4) 5 1 (.slice (some ⟨w.heap.size + 4, 0, none⟩) 0 n) 0 []) := own_frC O5.out f56 (fun _ _ e => e)
    have Hg9 : Hid (w.heap.size + 4 < g9) := Z5.out.1
    clear X5 O5 B9 Z5 Y6 f56 Y hsz5
    go_wp2_with fail
    obtain ⟨L, hL⟩ : ∃ L, L = xorP key ctr nonce b := ⟨_, rfl⟩
    have HL := Lib.hid hL
    have HLn : Hid (L.length = n) := by rw [hL, xorP_len]; exact Hs.out.len
    clear hL
    have hD : w6.heap.size = g9 + 4 := z56.out
    have I6 : Hid (XI w w6 key nonce (.slice A n c) L g9 0 (some ⟨w.heap.size + 4, 0, none⟩) n) := ⟨X6.out, B6.out, O6.out, (fun j hj => .inl (by injection hj with hj; exact hj.symm)), Hg9.out⟩
    clear X6 B6 O6 Hi0 Hz0 Hz1 Hz2
    refine wp_range (gf := 37) (lb := #[.pointer (some ⟨g9 + 1, 0, none⟩), .pointer (some ⟨g9 + 2, 0, none⟩), .pointer (some ⟨g9 + 3, 0, none⟩)]) rfl (enters_of Try.func37 (by kernel_rfl) rfl)
      (stream_iter Hk.out Hn.out Y1.out.1 Y1.out.2.1 Y1.out.2.2 (by omega) n (by have := Hb.out; omega)) (by rintro j (h | h | h) <;> omega) (by intro j h; have h : j = g9 + 2 := h; omega)
      (fun k W => Hid (64 * k < n ∧ ∃ A' c', XI w W key nonce (.slice A n c) L g9 (64 * k) A' c')) (fun cc W => Hid (XEnd w key nonce (.slice A n c) L g9 n cc W))
      (fun k W1 W2 h hf => ⟨h.out.1, h.out.2.choose, h.out.2.choose_spec.choose, h.out.2.choose_spec.choose_spec.frm hf (fun j hj => by omega)⟩) (fun cc W1 W2 h hf => h.out.frm hf (fun j hj => by omega)) ⟨by omega, _, _, I6.out⟩ (by rintro k W0 W1 args rfl; rfl) ?round
      (fun _ W h => by have := h.out.1; omega) ?done ?stop
    case round =>
      rintro k W0 W1 args hkN hi hsz0 hf0 rfl
      obtain ⟨hkn, A0, c0, hI0⟩ := hi.out
      have H0 : Hid (XI w W1 key nonce (.slice A n c) L g9 (64 * k) A0 c0) := hI0.frm hf0 (fun j hj => by omega)
      have Hkn := Lib.hid hkn
      have hz1 : Hid (g9 + 6 ≤ W1.heap.size) := by have := hf0.size; show _ ≤ _; omega
      clear hi hI0 hf0 hkn hsz0
      obtain ⟨io, hio, hzo, _, _⟩ := info_parts Try.infoO
      have Hio := Lib.hid hio; have Hzo := Lib.hid hzo
      clear hio hzo
      obtain ⟨P, hP⟩ : ∃ P, P = blockP key (ctr + BitVec.ofNat 32 k) nonce := ⟨_, rfl⟩
      rw [← hP]
      have HP := Lib.hid hP
      have HPL : Hid (P.length = 64) := by rw [hP]; exact blockP_len _ _ _
      clear hP
      have iP : Hid ((Try.prog.info? 61).map (·.size) = some (bs P).length) := by rw [bs_length, HPL.out]; exact Try.sizeO
      have uP := Lib.hid Try.underlying61
      simp only [List.zip_toArray, List.zip_cons_cons, List.zip_nil_right, List.foldl_toArray, List.foldl_cons, List.foldl_nil, List.setIfInBounds_toArray, List.set_cons_succ, List.set_cons_zero]
      gi_wp2_with (first
        | ((with_reducible refine lin_alloc_d (.inr ⟨_, rfl⟩) 10 rfl 61 rfl io _ Hio.out Hzo.out ?_ ?_)
           (focus rfl)
           intro g10 w2 Hg10 Hh10 hb2
           have Hb2 := Lib.hid hb2
           have Hh10' : Hid (w2.heap[g10]? = some (.cells (bs (List.replicate 64 0)).toArray 61 (0, 0))) := Hh10
           clear hb2)
        | ((with_reducible refine lin_store_abs (.inr ⟨_, rfl⟩) 61 (.tmp 10) (.tmp 24) rfl g10 61 (bs (List.replicate 64 0)).toArray (bs P).toArray rfl rfl Hh10'.out (by simpa using iP.out) (by simp [bs_length, HPL.out]) (by simp; exact bs_oneCell _) ?_ ?_)
           (focus rfl)
           intro w3 Hh3 hg3
           have Hg3 := Lib.hid hg3
           clear hg3))
      have hb13 : Below W1.heap.size W1 w3 := Hb2.out.grown Hg3.out Hb2.out.size (fun j hj => by injection hj with hj; have := Hg10.out; omega)
      refine ⟨Fr.of_below hb13, ?_⟩
      intro W3 hf3
      have X3 : Hid (XI w W3 key nonce (.slice A n c) L g9 (64 * k) A0 c0) := (H0.out.frm (M := NoB) (Fr.of_below hb13) (fun j hj => hj.elim)).frm hf3 (fun j hj => by omega)
      have hg10 : g9 + 6 ≤ g10 := by have := Hg10.out; have := hz1.out; omega
      have r10 : Hid (W3.rangeAt g10 0 (bs P)) := range_block (by rw [hf3.block g10 (Array.getElem?_eq_some_iff.1 Hh3.out).1 (by omega)]; exact Hh3.out)
      have Hz3 : Hid (g9 + 6 ≤ W3.heap.size) := by have := hf3.size; have := hb13.size; have := hz1.out; show _ ≤ _; omega
      clear hb13 hf3 H0 hz1 Hio Hzo Hg10 Hh10 Hb2 Hh10' Hh3 Hg3 hg10
      gi_wp2_with (first
        | ((with_reducible refine lin_load_mid (.inr ⟨_, rfl⟩) 61 (.tmp 10) rfl g10 0 rfl (bs P) _ r10.out uP.out rfl iP.out ?_ ?_)
           (focus rfl)))
      gi_loopw [26] (fun v wr => ∃ (i : Nat) (A' : Option Addr) (c' : Nat), i ≤ 64 ∧ v = .int .i64 (i : Nat) ∧ Hid (64 * k + i ≤ n) ∧ Hid (XI w wr key nonce (.slice A n c) L g9 (64 * k + i) A' c') ∧ Hid (Fr (Bd (fun j => j = g9 + 1 ∨ j = g9 + 1 + 1 ∨ j = g9 + 1 + 2) w6.heap.size) W3 wr)) (fun v _ => 64 - (intOf v).toNat)
      case atStart => exact ⟨0, A0, c0, Nat.zero_le _, rfl, by have := Hkn.out; show _ ≤ _; omega, X3.out, Fr.refl _ _⟩
      case round =>
        obtain ⟨i, A', c', hi, rfl, Hin, HX, HF3⟩ := hrel
        obtain ⟨m, hm⟩ : ∃ m, m = 64 * k + i := ⟨_, rfl⟩
        rw [← hm] at Hin HX
        have Hm := Lib.hid hm
        clear hm X3 r10
        have b9 := HX.out.o.cell
        have b7 := HX.out.x.b.cell
        have hmn : m ≤ n := Hin.out
        by_cases hlt : i < 64
        · have hiI : (i : Int) < 64 := by omega
          have hi0 : (0 : Int) ≤ (i : Int) := by omega
          have hix := Lib.hid (run_index_by wr 61 64 P uP.out HPL.out i (by rw [HPL.out]; exact hlt))
          obtain ⟨x, hx⟩ : ∃ x, x = P[i]'(by rw [HPL.out]; exact hlt) := ⟨_, rfl⟩
          rw [← hx] at hix
          have Hx := Lib.hid hx
          clear hx
          have hxv : bv x = .int .u8 (x.toNat : Int) := rfl
          rw [hxv] at hix
          by_cases heq : m = n
          · subst heq
            have hcmp : ((m : Int) == (m : Int)) = true := by simp
            have b8 := HX.out.x.r.cell
            have f8 := HX.out.x.r.frozen
            gi_wp2_with (first
              | ((with_reducible refine lin_index (.inr ⟨_, rfl⟩) 61 (.tmp 25) (.tmp 26) rfl (.agg (bs P).toArray) (.int .i64 (i : Nat)) _ rfl rfl hix.out ?_ ?_)
                 (focus rfl)))
            have F8 : Fr (fun j => j = w.heap.size + 3) wr (wr.setCell ⟨w.heap.size + 3, 0, none⟩ (.slice A' m c')) := (Fr.refl (fun j => j = w.heap.size + 3) wr).setCell (p := ⟨w.heap.size + 3, 0, none⟩) (.inl rfl) _
            have h9 := HX.out.hi
            refine ⟨HF3.out.trans F8 (fun j _ e => ⟨by omega, by omega, by omega⟩), Lib.hid (.inl ⟨rfl, A', c', Boxed.set _ HX.out.x.r, ?_, HX.out.blk, ?_, h9⟩)⟩
            · have h := own_frC HX.out.own F8 (fun j hj e => by have := HX.out.blk j hj; omega)
              rw [List.take_of_length_le (by rw [HLn.out]; exact Nat.le_refl _)] at h
              exact h
            · exact ((Fr.of_below HX.out.x.fr).trans F8 (fun _ _ h => h)).to_below (fun i hi e => by omega)
          · have hmlt : m < n := by omega
            have hcmp : ((m : Int) == (n : Int)) = false := by simp; omega
            gi_wp2_with (first
              | ((with_reducible refine lin_index (.inr ⟨_, rfl⟩) 61 (.tmp 25) (.tmp 26) rfl (.agg (bs P).toArray) (.int .i64 (i : Nat)) _ rfl rfl hix.out ?_ ?_)
                 (focus rfl)))
            have hml : m < b.length := by have := Hs.out.len; omega
            obtain ⟨ad, hA, hcb⟩ := Hs.out.rd m _ (bs_get b m hml)
            subst hA
            have hblk : ad.block < w.heap.size := HF.out _ (Hs.out.foot ad rfl (fun e => by have h2 := bs_length b; rw [e] at h2; simp at h2; omega))
            obtain ⟨y, hy⟩ : ∃ y, y = b[m] := ⟨_, rfl⟩
            rw [← hy] at hcb
            have Hy := Lib.hid hy
            clear hy
            have hcb2 : Hid (wr.drew.cell? (ad.add m) = some (.int .u8 (y.toNat : Int))) := cell_fr hcb ((Fr.of_below (M := NoB) HX.out.x.fr).drew) id
            have hbk : Hid ((ad.add m).block < w.heap.size) := by show _ < _; rw [addr_add_block]; exact hblk
            have b9d : Hid (wr.drew.cell? ⟨g9, 0, none⟩ = some (.slice A' m c')) := b9
            have b7d : Hid (wr.drew.cell? ⟨w.heap.size + 2, 0, none⟩ = some (.slice (some ad) n c)) := b7
            have hxy := xor_byte y x
            obtain ⟨z, hz⟩ : ∃ z, z = y ^^^ x := ⟨_, rfl⟩
            rw [← hz] at hxy
            have Hzz := Lib.hid hz
            clear hz
            have hmI : (m : Int) < (n : Int) := by omega
            have hm0 : (0 : Int) ≤ (m : Int) := by omega
            have HXd : Hid (XI w wr.drew key nonce (.slice (some ad) n c) L g9 m A' c') := HX.out.frm (M := NoB) ((Fr.refl NoB wr).drew) (fun j hj => hj.elim)
            refine wpIn_region_os (by kernel_rfl) (fun ⟨_, _, h⟩ => h) (fun i w' => match i with
              | 0 => w'.cell? ⟨g9, 0, none⟩ = some (.slice A' m c')
              | 1 => w'.cell? ⟨w.heap.size + 2, 0, none⟩ = some (.slice (some ad) n c)
              | 2 => w'.cell? ⟨g9, 0, none⟩ = some (.slice A' m c')
              | 5 => w'.cell? (ad.add m) = some (.int .u8 (y.toNat : Int))
              | _ => True) [0, 1, 2, 5]
              (.take 0 (.take 1 (.take 2 (.move 3 (.move 4 (.take 5 (.move 6 (.move 7 (.run 8 [0, 1, 2, 5] (.run 9 [0, 1, 2, 5] (.run 10 [] .done))))))))))) (by kernel_rfl) (by kernel_rfl) (fun _ _ _ _ _ h => h) ?_
            refine os_yld b9d.out rfl rfl rfl (Nat.le_of_ble_eq_true rfl) ?_
            apply Exists.intro
            refine ⟨fun w' hS' K hK => ?_, ?_⟩
            (focus
              have hS2 : (fun w' => w'.cell? ⟨g9, 0, none⟩ = some (.slice A' m c')) w' := hS'
              clear hS'
              try dsimp only at hS2
              go_simp
              exact hK)
            refine os_yld b7d.out rfl rfl rfl (Nat.le_of_ble_eq_true rfl) ?_
            apply Exists.intro
            refine ⟨fun w' hS' K hK => ?_, ?_⟩
            (focus
              have hS2 : (fun w' => w'.cell? ⟨w.heap.size + 2, 0, none⟩ = some (.slice (some ad) n c)) w' := hS'
              clear hS'
              try dsimp only at hS2
              go_simp
              exact hK)
            refine os_yld b9d.out rfl rfl rfl (Nat.le_of_ble_eq_true rfl) ?_
            apply Exists.intro
            refine ⟨fun w' hS' K hK => ?_, ?_⟩
            (focus
              have hS2 : (fun w' => w'.cell? ⟨g9, 0, none⟩ = some (.slice A' m c')) w' := hS'
              clear hS'
              try dsimp only at hS2
              go_simp
              exact hK)
            iterate 2 (
              refine os_move rfl rfl rfl (Nat.le_of_ble_eq_true rfl) ?_
              apply Exists.intro
              refine ⟨fun w' K hK => ?_, ?_⟩
              (focus
                go_simp
                exact hK))
            refine os_yld hcb2.out rfl rfl rfl (Nat.le_of_ble_eq_true rfl) ?_
            apply Exists.intro
            refine ⟨fun w' hS' K hK => ?_, ?_⟩
            (focus
              have hS2 : (fun w' => w'.cell? (ad.add m) = some (.int .u8 (y.toNat : Int))) w' := hS'
              clear hS'
              try dsimp only at hS2
              go_simp
              exact hK)
            iterate 2 (
              refine os_move rfl rfl rfl (Nat.le_of_ble_eq_true rfl) ?_
              apply Exists.intro
              refine ⟨fun w' K hK => ?_, ?_⟩
              (focus
                go_simp
                exact hK))
            refine os_run rfl rfl (fun K hK => ?_)
            go_wp2_with fail
            refine ⟨?_, ?_⟩
            · intro i hi h
              simp only [List.mem_cons, List.not_mem_nil, or_false] at hi
              rcases hi with rfl | rfl | rfl | rfl <;> exact Lib.cell?_alloc_marked _ h
            have HX7 : Hid (XI w (wr.alloc (.cells #[.int .u8 (z.toNat : Int)] 5)).drew key nonce (.slice (some ad) n c) L g9 m A' c') := HX.out.frm (M := NoB) (((Fr.refl NoB wr).alloc _).drew) (fun j hj => hj.elim)
            have R7 : Hid (Rd (wr.alloc (.cells #[.int .u8 (z.toNat : Int)] 5)).drew (some ⟨wr.heap.size, 0, none⟩) (bs [z])) := Rd.one wr z
            have F7 : Hid (Fr (Bd (fun j => j = g9 + 1 ∨ j = g9 + 1 + 1 ∨ j = g9 + 1 + 2) w6.heap.size) W3 (wr.alloc (.cells #[.int .u8 (z.toNat : Int)] 5)).drew) := (HF3.out.alloc _).drew
            have Z7 : Hid (g9 + 6 ≤ (wr.alloc (.cells #[.int .u8 (z.toNat : Int)] 5)).drew.heap.size) := by
              have := HF3.out.size; have := Hz3.out
              show _ ≤ (wr.alloc _).heap.size
              simp; omega
            generalize (wr.alloc (.cells #[.int .u8 (z.toNat : Int)] 5)).drew = w7 at HX7 R7 F7 Z7 ⊢
            clear HX HXd b9 b7 b9d b7d hcb2 hcb HF3
            refine os_run rfl rfl (fun K hK => ?_)
            refine wp_append_bytes (.tmp 35) (.tmp 43) rfl (w.heap.size + 4) A' m c' (L.take m) rfl HX7.out.own (some ⟨wr.heap.size, 0, none⟩) 1 1 [z] rfl rfl R7.out (by have := Hb.out; omega) (by have := HX7.out.x.sz; omega) ?_
            intro A8 c8 w8 hown8 hg8 hat8
            have hi7 := HX7.out.hi
            have hfr8 : Fr (fun j => j = w.heap.size + 4 ∨ g9 + 6 ≤ j) w7 w8 := (Fr.of_grown hg8).mono (fun j _ h => HX7.out.blk j h.symm)
            refine hK _ _ ⟨?_, ?_⟩
            · intro i hi h
              simp only [List.mem_cons, List.not_mem_nil, or_false] at hi
              rcases hi with rfl | rfl | rfl | rfl
              · exact cell_fr h hfr8 (by show ¬ (g9 = w.heap.size + 4 ∨ g9 + 6 ≤ g9); omega)
              · exact cell_fr h hfr8 (by show ¬ (w.heap.size + 2 = w.heap.size + 4 ∨ g9 + 6 ≤ w.heap.size + 2); omega)
              · exact cell_fr h hfr8 (by show ¬ (g9 = w.heap.size + 4 ∨ g9 + 6 ≤ g9); omega)
              · exact cell_fr h hfr8 (by have := hbk.out; omega)
            have B8 : Hid (Boxed w8 g9 26 (.slice A' m c')) := Boxed.fr' HX7.out.o hfr8 (by omega)
            have X8 : Hid (XB w w8 key nonce (.slice (some ad) n c)) := HX7.out.x.frm hfr8 (fun j hj => by omega)
            have Hblk8 : Hid (∀ j, (Value.slice A8 (m + 1) c8).ownBlock = some j → j = w.heap.size + 4 ∨ g9 + 6 ≤ j) := fun j hj => by
              rcases hat8 with h | h
              · exact HX7.out.blk j (h.symm.trans hj)
              · rw [h] at hj; injection hj with hj; have := Z7.out; omega
            have Ho8 := Lib.hid hown8
            have F8 : Hid (Fr (Bd (fun j => j = g9 + 1 ∨ j = g9 + 1 + 1 ∨ j = g9 + 1 + 2) w6.heap.size) W3 w8) := F7.out.trans hfr8 (fun j _ h => ⟨by omega, by omega, by omega⟩)
            have c9 := B8.out.cell
            have f9 := B8.out.frozen
            have Hi7 := Lib.hid hi7
            clear hown8 hg8 hat8 hfr8 HX7 F7 Z7 R7 hK hi7
            refine os_run rfl rfl (fun K hK => ?_)
            go_wp2_with fail
            refine ⟨fun _ h => (by cases h), ?_⟩
            refine os_done ?_
            have F9 : Fr (fun j => j = g9) w8 (w8.setCell ⟨g9, 0, none⟩ (.slice A8 (m + 1) c8)) := (Fr.refl (fun j => j = g9) w8).setCell (p := ⟨g9, 0, none⟩) (.inl rfl) _
            have htk : L.take (m + 1) = L.take m ++ [z] := by
              have hml2 : m < L.length := by rw [HLn.out]; exact hmlt
              rw [List.take_succ_eq_append_getElem hml2]
              congr 2
              have e : L[m]? = some z := by
                rw [HL.out]
                unfold xorP
                rw [List.getElem?_map, List.getElem?_range (by omega)]
                simp only [Option.map_some]
                have h1 : m / 64 = k := by have := Hm.out; omega
                have h2 : m % 64 = i := by have := Hm.out; omega
                unfold ksP
                rw [h1, h2, ← HP.out, getD_eq hml, getD_eq (by rw [HPL.out]; exact hlt), ← Hy.out, ← Hx.out, ← Hzz.out]
              rw [List.getElem?_eq_getElem hml2] at e
              exact Option.some.inj e
            have X9 : Hid (XI w (w8.setCell ⟨g9, 0, none⟩ (.slice A8 (m + 1) c8)) key nonce (.slice (some ad) n c) L g9 (m + 1) A8 c8) := by
              have h9 := Hi7.out
              refine ⟨X8.out.frm F9 (fun j hj => by omega), Boxed.set _ B8.out, ?_, Hblk8.out, h9⟩
              rw [htk]
              exact own_frC Ho8.out F9 (fun j hj e => by have := Hblk8.out j hj; omega)
            have FF9 : Hid (Fr (Bd (fun j => j = g9 + 1 ∨ j = g9 + 1 + 1 ∨ j = g9 + 1 + 2) w6.heap.size) W3 (w8.setCell ⟨g9, 0, none⟩ (.slice A8 (m + 1) c8))) := F8.out.trans F9 (fun j _ h => ⟨by omega, by omega, by omega⟩)
            clear htk F9 c9 f9 B8 X8 Ho8 F8
            gi_wp2_with fail
            go_roundw
            case rel => exact ⟨i + 1, A8, c8, by omega, by go_num, by have := Hm.out; show 64 * k + (i + 1) ≤ n; omega, by rw [show 64 * k + (i + 1) = m + 1 by have := Hm.out; omega]; exact X9.out, FF9.out⟩
            case measure => simp [intOf]; omega
        · have hiI : decide ((i : Int) < 64) = false := decide_eq_false (by omega)
          have hi64 : i = 64 := by omega
          have hm64 : m = 64 * (k + 1) := by have := Hm.out; omega
          have Hm64 := Lib.hid hm64
          have HX64 := Lib.hid HX.out
          clear hi64 hlt hi hm64
          by_cases heq : m = n
          · subst heq
            have hcmp : ((m : Int) == (m : Int)) = true := by simp
            gi_wp2_with fail
            exact ⟨HF3.out, Lib.hid (.inr ⟨rfl, A', c', HX64.out⟩)⟩
          · have hcmp : ((m : Int) == (n : Int)) = false := by simp; omega
            gi_wp2_with fail
            refine ⟨HF3.out, Lib.hid ⟨by have := Hm64.out; omega, A', c', ?_⟩⟩
            rw [← Hm64.out]; exact HX64.out
    case done =>
      intro W h _
      exact absurd h.out.1 (by omega)
    case stop =>
      intro cc W h hDf
      have HDf := Lib.hid hDf
      clear hDf
      rcases h.out with ⟨rfl, A', c', h1, h2, h3, h4, h5⟩ | ⟨rfl, A', c', hX⟩
      · have H1 := Lib.hid h1; have H2 := Lib.hid h2; have H4 := Lib.hid h4; have H3 := Lib.hid h3
        clear h h1 h2 h3 h4 I6
        go_wp2_with fail
        refine ⟨by simp, .inl ⟨_, _, rfl, run_takeDeferred HDf.out, ?_⟩⟩
        have hF : Fr (fun j => j = w6.heap.size) W (W.putObj w6.heap.size (.deferred none)) := (Fr.refl (fun j => j = w6.heap.size) W).putObj (.inl rfl) _
        have e0 := (Boxed.fr' H1.out hF (by omega)).cell
        refine ⟨.slice A' n c', by simp [results, Try.results21, go_sem, e0]; try rfl, A', c', rfl, ?_, ?_⟩
        · have h := own_mono (own_frC H2.out hF (fun j hj => by have := H3.out j hj; omega)) (show w.heap.size ≤ w.heap.size + 4 by omega)
          rw [HL.out] at h; exact h
        · exact H4.out.trans (Fr.to_below' hF (fun j hj => by omega) H4.out.size)
      · have HX := Lib.hid hX
        have b9 := hX.o.cell
        have b8 := hX.x.r.cell
        have f8 := hX.x.r.frozen
        clear h hX I6
        go_wp2_with fail
        have h9 := HX.out.hi
        have F8 : Fr (fun j => j = w.heap.size + 3) W (W.setCell ⟨w.heap.size + 3, 0, none⟩ (.slice A' n c')) := (Fr.refl (fun j => j = w.heap.size + 3) W).setCell (p := ⟨w.heap.size + 3, 0, none⟩) (.inl rfl) _
        have hDf8 : (W.setCell ⟨w.heap.size + 3, 0, none⟩ (.slice A' n c')).heap[w6.heap.size]? = some (.deferred (some [])) := (F8.block _ (Array.getElem?_eq_some_iff.1 HDf.out).1 (by omega)).trans HDf.out
        refine ⟨by simp, .inl ⟨_, _, rfl, run_takeDeferred hDf8, ?_⟩⟩
        have hF : Fr (fun j => j = w.heap.size + 3 ∨ j = w6.heap.size) W ((W.setCell ⟨w.heap.size + 3, 0, none⟩ (.slice A' n c')).putObj w6.heap.size (.deferred none)) := (F8.mono (fun _ _ h => .inl h)).putObj (.inl (.inr rfl)) _
        have e0 := (Boxed.fr' (Boxed.set (.slice A' n c') HX.out.x.r) ((Fr.refl (fun j => j = w6.heap.size) (W.setCell ⟨w.heap.size + 3, 0, none⟩ (.slice A' n c'))).putObj (.inl rfl) (.deferred none)) (by omega)).cell
        refine ⟨.slice A' n c', by simp [results, Try.results21, go_sem, e0]; try rfl, A', c', rfl, ?_, ?_⟩
        · have h := own_mono (own_frC HX.out.own hF (fun j hj => by have := HX.out.blk j hj; omega)) (show w.heap.size ≤ w.heap.size + 4 by omega)
          rw [List.take_of_length_le (by rw [HLn.out]; exact Nat.le_refl _), HL.out] at h; exact h
        · exact HX.out.x.fr.trans (Fr.to_below' hF (fun j hj => by omega) HX.out.x.fr.size)
end Go.Proofs.Ytklclbppdoahjaa
