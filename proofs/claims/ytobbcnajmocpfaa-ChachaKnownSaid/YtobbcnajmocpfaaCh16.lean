/- The reference: word, Square. -/
import Derived.Test.YtobbcnajmocpfaaCh15
import Derived.Lib.AppendStr
namespace Go.Proofs.Ytobbcnajmocpfaa
open Go.RowKit
attribute [local go_sem] yld yldUpon_value

theorem le_sum (a b d e : UInt8) : (((a.toNat : Int) + (b.toNat : Int) % 4294967296 * 256 + (d.toNat : Int) % 4294967296 * 65536) % 4294967296 + (e.toNat : Int) % 4294967296 * 16777216 % 4294967296) % 4294967296 = wv (leW a b d e) := by
  have ha := a.toNat_lt; have hb := b.toNat_lt; have hd := d.toNat_lt; have he := e.toNat_lt
  simp only [Nat.reducePow] at ha hb hd he
  unfold wv
  rw [leW_toNat]
  omega

set_option maxHeartbeats 1000000 in
theorem word_any {w : World} {F : Nat → Prop} {A : Option Addr} {n c : Nat} {l : List UInt8} (h : Sl w F A n c l) (hn : 4 ≤ n) :
    Calls Try.prog 33 #[.slice A n c] w fun e w' => e = .returned (.int .u32 (wv (leAt l 0))) ∧ ∃ k, w' = w.drewN k := by
  obtain ⟨ad, b0, b1, b2, b3, rfl, hle, h0, h1, h2, h3⟩ := h.four 0 (by omega)
  rw [hle]
  have e0 : ad.add 0 = ad := by unfold Addr.add; split <;> simp_all
  have hsp : ad = ⟨ad.block, ad.off, none⟩ := by
    rw [e0] at h0
    obtain ⟨bb, oo, ss⟩ := ad
    unfold World.cell? at h0
    simp only at h0
    split at h0
    · cases ss with
      | none => rfl
      | some _ => simp at h0
    · cases h0
  rw [e0] at h0
  have g1 : w.cell? ⟨ad.block, ad.off + 1, none⟩ = some (.int .u8 (b1.toNat : Int)) := by rw [hsp, addr_add_zero] at h1; exact h1
  have g2 : w.cell? ⟨ad.block, ad.off + 2, none⟩ = some (.int .u8 (b2.toNat : Int)) := by rw [hsp, addr_add_zero] at h2; exact h2
  have g3 : w.cell? ⟨ad.block, ad.off + 3, none⟩ = some (.int .u8 (b3.toNat : Int)) := by rw [hsp, addr_add_zero] at h3; exact h3
  have i0 : (0 : Int) < (n : Int) := by omega
  have j0 : 0 < n := by omega
  have j1 : 1 < n := by omega
  have j2 : 2 < n := by omega
  have j3 : 3 < n := by omega
  have i1 : (1 : Int) < (n : Int) := by omega
  have i2 : (2 : Int) < (n : Int) := by omega
  have i3 : (3 : Int) < (n : Int) := by omega
  clear h hn h1 h2 h3 hle hsp e0
  go_enter Try.func33, Try.ntmps33
  go_wp2_with fail
  go_quiet (fail)
  go_wp2
  go_ret
  exact ⟨ret_int (le_sum _ _ _ _), nq, rfl⟩

/-- append of words to words of the call's own -/
theorem append_words {w : World} {ops : Array Oper} {rest : List Oper} {o : Oper} {a : Act} {Q : Exit → Act → World → Prop} (hgd : o.guard = none) (s x : Operand)
    (ho : o.op = .call { callee := .builtin .append, args := #[s, x], argTypes := #[40, 40] })
    (base : Nat) (A : Option Addr) (n c : Nat) (l : List (BitVec 32)) (hs : a.eval s = .slice A n c) (hown : w.ownsRow base 24 1 (.slice A n c) n (wl l))
    (A2 : Option Addr) (m c2 : Nat) (l2 : List (BitVec 32)) (hx : a.eval x = .slice A2 m c2) (hl : l2.length = m) (hr : Rd w A2 (wl l2))
    (hb : n + m ≤ 1000000) (hbase : base ≤ w.heap.size)
    (h : ∀ A' c' w', w'.ownsRow base 24 1 (.slice A' (n + m) c') (n + m) (wl (l ++ l2)) → w.grownBy w' (Value.slice A n c).ownBlock →
      ((Value.slice A' (n + m) c').ownBlock = (Value.slice A n c).ownBlock ∨ (Value.slice A' (n + m) c').ownBlock = some w.heap.size) → wpList Try.prog ops Q rest (a.put o.dst (.slice A' (n + m) c')) w') : wpList Try.prog ops Q (o :: rest) a w := by
  obtain ⟨i0, hi, hz0, hz1, hz2⟩ := info_parts Try.infoW
  refine wpList_plain hgd fun _ hK => wp_append_rd w s x 40 ho base 24 i0 (.int .u32 0) 1 4 Try.underlying40 hi hz0 hz1 hz2 rfl (by decide) _ n _ hs hown A2 m c2 _ hx (by rw [wl_length, hl, Nat.mul_one]) hr (wl_oneCell l2) (by simp only [maxLen]; omega) (by omega) hbase ?_
  intro A' c' w' h1 h2 h3
  exact hK _ _ (h A' c' w' (by rw [show wl (l ++ l2) = wl l ++ wl l2 by simp [wl]]; exact h1) h2 h3)
theorem own_base {w : World} {base e g n c : Nat} {xs : List Value} (h : w.ownsRow base e 1 (.slice (some ⟨g, 0, none⟩) n c) n xs) : w.ownsRow g e 1 (.slice (some ⟨g, 0, none⟩) n c) n xs := by
  refine ⟨h.1, ?_⟩
  rcases h.2 with ⟨e1, _⟩ | ⟨g', cap', cur, e1, hb, hh, r⟩
  · cases e1
  · injection e1 with e1 e2 e3; injection e1 with e1; injection e1 with e1 _; subst e1
    exact .inr ⟨g, cap', cur, by rw [e3], Nat.le_refl _, hh, r⟩
theorem Try.undS : Try.prog.underlying 9 = some .string := by kernel_rfl
/-- the reference's boxes -/
structure RB (w W : World) (key nonce : List UInt8) : Prop where
  k : W.heap[w.heap.size]? = some (.cells (bs key).toArray 23 (0, 0))
  n : W.heap[w.heap.size + 1]? = some (.cells (bs nonce).toArray 26 (0, 0))
  sz : w.heap.size + 2 ≤ W.heap.size
  fr : Below w.heap.size w W
theorem RB.start (w : World) (key nonce : List UInt8) : RB w ((w.alloc (.cells (bs key).toArray 23)).alloc (.cells (bs nonce).toArray 26)) key nonce :=
  ⟨heap_alloc2_old w _ _, heap_alloc2_new w _ _, by simp, ((Below.refl _ _).alloc (Nat.le_refl _) _).alloc (by simp) _⟩
theorem RB.frm {w W W' : World} {key nonce : List UInt8} (h : RB w W key nonce) {M : Nat → Prop} (hf : Fr M W W') (hM : ∀ j, M j → w.heap.size + 2 ≤ j) : RB w W' key nonce := by
  have hs := h.sz
  have hz := hf.size
  exact ⟨(hf.block _ (by omega) (fun e => by have := hM _ e; omega)).trans h.k, (hf.block _ (by omega) (fun e => by have := hM _ e; omega)).trans h.n, by omega,
    ((Fr.of_below h.fr).trans (M := fun j => w.heap.size + 2 ≤ j) hf (fun i _ h => hM _ h)).to_below (fun i hi => by omega)⟩
theorem bs_take_add {s l : List UInt8} {k : Nat} (h : k < l.length) : s ++ l.take (k + 1) = (s ++ l.take k) ++ [l[k]] := by
  rw [List.take_succ_eq_append_getElem h, List.append_assoc]
/-- the counter's bytes, the lowest first -/
def ctrB (ctr : BitVec 32) : List UInt8 := [byteOf ctr 0, byteOf ctr 1, byteOf ctr 2, byteOf ctr 3]
def allP (key : List UInt8) (ctr : BitVec 32) (nonce : List UInt8) : List UInt8 := ((sigma ++ key) ++ ctrB ctr) ++ nonce
theorem ctrB_get (ctr : BitVec 32) {k : Nat} (h : k < 4) : (ctrB ctr)[k]? = some (byteOf ctr k) := by
  match k, h with
  | 0, _ => rfl
  | 1, _ => rfl
  | 2, _ => rfl
  | 3, _ => rfl
theorem cell_block {w : World} {g : Nat} {l : List UInt8} {T : Nat} {k : Nat} (h : w.heap[g]? = some (.cells (bs l).toArray T (0, 0))) (hk : k < l.length) : w.cell? ⟨g, k, none⟩ = some (.int .u8 (l[k].toNat : Int)) := by
  rw [cell_of_row w g k _ _ _ h, List.getElem?_toArray, bs_get l k hk]; rfl

theorem leAt_left {l r : List UInt8} {i : Nat} (h : i + 3 < l.length) : leAt (l ++ r) i = leAt l i := by
  have e : ∀ j, j < l.length → (l ++ r).getD j 0 = l.getD j 0 := fun j hj => by
    simp [List.getD, List.getElem?_append_left hj]
  unfold leAt
  rw [e _ (by omega), e _ (by omega), e _ (by omega), e _ (by omega)]
theorem leAt_right {l r : List UInt8} {i : Nat} (n : Nat) (hn : l.length = n) (h : n ≤ i) : leAt (l ++ r) i = leAt r (i - n) := by
  subst hn
  have e : ∀ j, l.length ≤ j → (l ++ r).getD j 0 = r.getD (j - l.length) 0 := fun j hj => by
    simp [List.getD, List.getElem?_append_right hj]
  unfold leAt
  rw [e _ (by omega), e _ (by omega), e _ (by omega), e _ (by omega)]
  rw [show i + 1 - l.length = i - l.length + 1 by omega, show i + 2 - l.length = i - l.length + 2 by omega, show i + 3 - l.length = i - l.length + 3 by omega]
theorem leAt_cut (l : List UInt8) (p : Nat) : leAt ((l.drop p).take 4) 0 = leAt l p := by
  have e : ∀ j, j < 4 → ((l.drop p).take 4).getD j 0 = l.getD (p + j) 0 := fun j hj => by
    simp [List.getD, List.getElem?_drop, hj]
  unfold leAt
  rw [e 0 (by omega), e (0 + 1) (by omega), e (0 + 2) (by omega), e (0 + 3) (by omega)]
  simp
theorem leW_ctr (ctr : BitVec 32) : leAt (ctrB ctr) 0 = ctr := by
  show leW (byteOf ctr 0) (byteOf ctr 1) (byteOf ctr 2) (byteOf ctr 3) = ctr
  apply BitVec.eq_of_toNat_eq
  rw [leW_toNat]
  have e : ∀ k, (byteOf ctr k).toNat = ctr.toNat / 2 ^ (8 * k) % 256 := fun k => UInt8.toNat_ofNat'
  have h : ctr.toNat < 4294967296 := ctr.isLt
  rw [e, e, e, e]
  simp only [Nat.mul_zero, Nat.pow_zero, Nat.div_one, Nat.reduceMul, Nat.reducePow]
  omega
theorem sigma_len : sigma.length = 16 := rfl
theorem begin_at (key : List UInt8) (ctr : BitVec 32) (nonce : List UInt8) (hk : key.length = 32) {k : Nat} (h : k < 16) : (beginP key ctr nonce)[k]? = some (leAt (allP key ctr nonce) (4 * k)) := by
  have l1 : (sigma ++ key).length = 48 := by rw [List.length_append, hk]; rfl
  have l2 : ((sigma ++ key) ++ ctrB ctr).length = 52 := by rw [List.length_append, l1]; rfl
  have c1 : k < 4 ∨ (4 ≤ k ∧ k < 12) ∨ k = 12 ∨ (13 ≤ k ∧ k < 16) := by omega
  unfold allP
  rcases c1 with c | c | c | c
  · rw [leAt_left (by rw [l2]; omega), leAt_left (by rw [l1]; omega), leAt_left (by rw [sigma_len]; omega)]
    match k, c with
    | 0, _ => rfl
    | 1, _ => rfl
    | 2, _ => rfl
    | 3, _ => rfl
  · rw [leAt_left (by rw [l2]; omega), leAt_left (by rw [l1]; omega), leAt_right 16 sigma_len (by omega)]
    obtain ⟨j, rfl⟩ : ∃ j, k = j + 4 := ⟨k - 4, by omega⟩
    rw [show 4 * (j + 4) - 16 = 4 * j by omega]
    have c3 : j < 8 := by omega
    clear c h
    match j, c3 with
    | 0, _ => rfl
    | 1, _ => rfl
    | 2, _ => rfl
    | 3, _ => rfl
    | 4, _ => rfl
    | 5, _ => rfl
    | 6, _ => rfl
    | 7, _ => rfl
  · subst c
    rw [leAt_left (by rw [l2]; omega), leAt_right 48 l1 (by omega)]
    show some ctr = some (leAt (ctrB ctr) 0)
    rw [leW_ctr]
  · rw [leAt_right 52 l2 (by omega)]
    obtain ⟨j, rfl⟩ : ∃ j, k = j + 13 := ⟨k - 13, by omega⟩
    rw [show 4 * (j + 13) - 52 = 4 * j by omega]
    have c3 : j < 3 := by omega
    clear c h
    match j, c3 with
    | 0, _ => rfl
    | 1, _ => rfl
    | 2, _ => rfl
set_option maxRecDepth 100000 in
set_option maxHeartbeats 8000000 in
theorem Square_any (w : World) (key nonce : List UInt8) (ctr : BitVec 32) (hk : key.length = 32) (hn : nonce.length = 12) :
    Calls Try.prog 26 #[.agg (bs key).toArray, .int .u32 (wv ctr), .agg (bs nonce).toArray] w fun e w' => ∃ g c, e = .returned (.slice (some ⟨g, 0, none⟩) 16 c) ∧ w.heap.size ≤ g ∧ g < w'.heap.size ∧ SqB w' 24 g 16 c (beginP key ctr nonce) ∧ Below w.heap.size w w' := by
  have Hk := Lib.hid hk; have Hn := Lib.hid hn
  obtain ⟨i0, hi0, hz0, hz1, hz2⟩ := info_parts Try.infoB
  have Hi0 := Lib.hid hi0; have Hz0 := Lib.hid hz0; have Hz1 := Lib.hid hz1; have Hz2 := Lib.hid hz2
  clear hk hn hi0 hz0 hz1 hz2
  have X2 := Lib.hid (RB.start w key nonce)
  go_enter Try.func26, Try.ntmps26
  go_wp2_with (first
    | (refine Lib.wpList_append_own_string _ rfl (.tmp 14) (.const (.string { data := #[101, 120, 112, 97, 110, 100, 32, 51, 50, 45, 98, 121, 116, 101, 32, 107] })) 31 9 rfl (w.heap.size + 2) 5 i0 Try.underlying31 Try.undS Hi0.out Hz0.out Hz1.out Hz2.out
          (.slice none 0 0) 0 [] rfl (World.ownsRow_nil _ _ _ _) { data := #[101, 120, 112, 97, 110, 100, 32, 51, 50, 45, 98, 121, 116, 101, 32, 107] } rfl (by decide) (by decide) X2.out.sz ?_
       intro v3 w3 hown3 hg3 _))
  obtain ⟨A3, c3, rfl⟩ := own_slice hown3
  have Ho3 : Hid (w3.ownsRow (w.heap.size + 2) 5 1 (.slice A3 16 c3) 16 (bs (sigma ++ key.take 0))) := hown3
  have X3 : Hid (RB w w3 key nonce) := X2.out.frm (Fr.of_grown hg3) (fun j e => by cases e)
  clear hown3 hg3 X2
  rw [show 0 + ({ data := #[101, 120, 112, 97, 110, 100, 32, 51, 50, 45, 98, 121, 116, 101, 32, 107] } : ByteArray).size = 16 from rfl]
  go_loopw [7, 8] (fun v i wr => ∃ (k : Nat) (A' : Option Addr) (c' : Nat), k ≤ 32 ∧ i = .int .i64 (k : Nat) ∧ v = .slice A' (16 + k) c' ∧ Hid (wr.ownsRow (w.heap.size + 2) 5 1 (.slice A' (16 + k) c') (16 + k) (bs (sigma ++ key.take k))) ∧ Hid (RB w wr key nonce)) (fun _ i _ => 32 - (intOf i).toNat)
  case atStart => exact ⟨0, A3, c3, Nat.zero_le _, rfl, rfl, Ho3.out, X3.out⟩
  case round =>
    clear Ho3 X3
    obtain ⟨k, A', c', hk, rfl, rfl, Ho, X⟩ := hrel
    by_cases hlt : k < 32
    · have hkI : (k : Int) < 32 := by omega
      have hk0 : (0 : Int) ≤ (k : Int) := by omega
      have hkl : k < key.length := by rw [Hk.out]; exact hlt
      have hc := cell_block X.out.k hkl
      have Ha := Lib.hid (Ho.out.alloc (.cells #[.int .u8 (key[k].toNat : Int)] 5))
      have Xa : Hid (RB w (wr.alloc (.cells #[.int .u8 (key[k].toNat : Int)] 5)) key nonce) := X.out.frm ((Fr.refl NoB wr).alloc _) (fun j e => e.elim)
      have Hts := Lib.hid (bs_take_add (s := sigma) hkl)
      go_wp2_with (refine append_bytes rfl (.tmp 20) (.tmp 24) rfl (w.heap.size + 2) A' (16 + k) c' (sigma ++ key.take k) rfl Ha.out (some ⟨wr.heap.size, 0, none⟩) 1 1 [key[k]] rfl rfl (Rd.one wr key[k]) (by omega) Xa.out.sz ?_
                   intro A4 c4 w4 hown4 hg4 _)
      have X4 : Hid (RB w w4 key nonce) := Xa.out.frm (Fr.of_grown hg4) (fun j e => (Ha.out.lt j e.symm).1)
      go_roundw
      case rel => exact ⟨k + 1, A4, c4, by omega, by go_num, rfl, by rw [Hts.out]; exact hown4, X4.out⟩
      case measure => simp [intOf]; omega
    · have hkI : decide ((k : Int) < 32) = false := decide_eq_false (by omega)
      have hk4 : k = 32 := by omega
      have Ho5 : Hid (wr.ownsRow (w.heap.size + 2) 5 1 (.slice A' 48 c') 48 (bs ((sigma ++ key) ++ (ctrB ctr).take 0))) := by
        have h := Ho.out
        subst hk4
        rw [List.take_of_length_le (by rw [Hk.out]; exact Nat.le_refl _)] at h
        have e : (sigma ++ key) ++ (ctrB ctr).take 0 = sigma ++ key := by simp
        rw [e]
        exact h
      have e48 : 16 + k = 48 := by omega
      rw [e48]
      clear hlt hk hk4 Ho e48
      go_wp2_with fail
      clear hkI
      go_loopw [7, 9, 10] (fun v xv i wr => ∃ (k : Nat) (A' : Option Addr) (c' x : Nat), k ≤ 4 ∧ i = .int .i64 (k : Nat) ∧ v = .slice A' (48 + k) c' ∧ xv = .int .u32 (x : Int) ∧ Hid (x = ctr.toNat / 2 ^ (8 * k)) ∧
        Hid (wr.ownsRow (w.heap.size + 2) 5 1 (.slice A' (48 + k) c') (48 + k) (bs ((sigma ++ key) ++ (ctrB ctr).take k))) ∧ Hid (RB w wr key nonce)) (fun _ _ i _ => 4 - (intOf i).toNat)
      case atStart => exact ⟨0, A', c', ctr.toNat, Nat.zero_le _, rfl, rfl, rfl, (by show _ = _; simp), Ho5.out, X.out⟩
      case round =>
        clear Ho5 X
        obtain ⟨k, A', c', x, hk, rfl, rfl, rfl, Hx, Ho, X⟩ := hrel
        by_cases hlt : k < 4
        · have hkI : (k : Int) < 4 := by omega
          have hk0 : (0 : Int) ≤ (k : Int) := by omega
          have hx0 : (0 : Int) ≤ (x : Int) := by omega
          have hx1 : (x : Int) < 4294967296 := by
            have h1 : ctr.toNat < 4294967296 := ctr.isLt
            have h2 : ctr.toNat / 2 ^ (8 * k) ≤ ctr.toNat := Nat.div_le_self _ _
            have := Hx.out; omega
          have hkl : k < (ctrB ctr).length := hlt
          obtain ⟨y, hy⟩ : ∃ y, y = (ctrB ctr)[k] := ⟨_, rfl⟩
          have hxm : (x : Int) % 256 = (y.toNat : Int) := by
            have e : y = byteOf ctr k := by
              have h := ctrB_get ctr hlt
              rw [List.getElem?_eq_getElem hkl] at h
              rw [hy]; exact Option.some.inj h
            have e2 : (byteOf ctr k).toNat = ctr.toNat / 2 ^ (8 * k) % 256 := UInt8.toNat_ofNat'
            rw [e, e2, ← Hx.out]; omega
          have Hxn : Hid (x / 256 = ctr.toNat / 2 ^ (8 * (k + 1))) := by
            show _ = _
            rw [Hx.out, Nat.div_div_eq_div_mul, show (256 : Nat) = 2 ^ 8 from rfl, ← Nat.pow_add]
            congr 2
          have Ha := Lib.hid (Ho.out.alloc (.cells #[.int .u8 (y.toNat : Int)] 5))
          have Xa : Hid (RB w (wr.alloc (.cells #[.int .u8 (y.toNat : Int)] 5)) key nonce) := X.out.frm ((Fr.refl NoB wr).alloc _) (fun j e => e.elim)
          have Hts : Hid ((sigma ++ key) ++ (ctrB ctr).take (k + 1) = ((sigma ++ key) ++ (ctrB ctr).take k) ++ [y]) := by
            show _ = _; rw [hy]; exact bs_take_add hkl
          clear hy hkl
          go_wp2_with (refine append_bytes rfl (.tmp 31) (.tmp 35) rfl (w.heap.size + 2) A' (48 + k) c' ((sigma ++ key) ++ (ctrB ctr).take k) rfl Ha.out (some ⟨wr.heap.size, 0, none⟩) 1 1 [y] rfl rfl (Rd.one wr y) (by omega) Xa.out.sz ?_
                       intro A4 c4 w4 hown4 hg4 _)
          have X4 : Hid (RB w w4 key nonce) := Xa.out.frm (Fr.of_grown hg4) (fun j e => (Ha.out.lt j e.symm).1)
          go_roundw
          case rel => exact ⟨k + 1, A4, c4, x / 256, by omega, by go_num, rfl, rfl, Hxn.out, by rw [Hts.out]; exact hown4, X4.out⟩
          case measure => simp [intOf]; omega
        · have hkI : decide ((k : Int) < 4) = false := decide_eq_false (by omega)
          have hk4 : k = 4 := by omega
          have Ho5 : Hid (wr.ownsRow (w.heap.size + 2) 5 1 (.slice A' 52 c') 52 (bs (((sigma ++ key) ++ ctrB ctr) ++ nonce.take 0))) := by
            have h := Ho.out
            subst hk4
            have e : ((sigma ++ key) ++ ctrB ctr) ++ nonce.take 0 = (sigma ++ key) ++ (ctrB ctr).take 4 := by
              rw [show (ctrB ctr).take 4 = ctrB ctr from rfl]; simp
            rw [e]
            exact h
          have e52 : 48 + k = 52 := by omega
          rw [e52]
          clear hlt hk hk4 Ho e52 Hx
          go_wp2_with fail
          clear hkI
          go_loopw [7, 11] (fun v i wr => ∃ (k : Nat) (A' : Option Addr) (c' : Nat), k ≤ 12 ∧ i = .int .i64 (k : Nat) ∧ v = .slice A' (52 + k) c' ∧ Hid (wr.ownsRow (w.heap.size + 2) 5 1 (.slice A' (52 + k) c') (52 + k) (bs (((sigma ++ key) ++ ctrB ctr) ++ nonce.take k))) ∧ Hid (RB w wr key nonce)) (fun _ i _ => 12 - (intOf i).toNat)
          case atStart => exact ⟨0, A', c', Nat.zero_le _, rfl, rfl, Ho5.out, X.out⟩
          case round =>
            clear Ho5 X
            obtain ⟨k, A', c', hk, rfl, rfl, Ho, X⟩ := hrel
            by_cases hlt : k < 12
            · have hkI : (k : Int) < 12 := by omega
              have hk0 : (0 : Int) ≤ (k : Int) := by omega
              have hkl : k < nonce.length := by rw [Hn.out]; exact hlt
              have hc := cell_block X.out.n hkl
              have Ha := Lib.hid (Ho.out.alloc (.cells #[.int .u8 (nonce[k].toNat : Int)] 5))
              have Xa : Hid (RB w (wr.alloc (.cells #[.int .u8 (nonce[k].toNat : Int)] 5)) key nonce) := X.out.frm ((Fr.refl NoB wr).alloc _) (fun j e => e.elim)
              have Hts := Lib.hid (bs_take_add (s := (sigma ++ key) ++ ctrB ctr) hkl)
              go_wp2_with (refine append_bytes rfl (.tmp 43) (.tmp 47) rfl (w.heap.size + 2) A' (52 + k) c' (((sigma ++ key) ++ ctrB ctr) ++ nonce.take k) rfl Ha.out (some ⟨wr.heap.size, 0, none⟩) 1 1 [nonce[k]] rfl rfl (Rd.one wr nonce[k]) (by omega) Xa.out.sz ?_
                           intro A4 c4 w4 hown4 hg4 _)
              have X4 : Hid (RB w w4 key nonce) := Xa.out.frm (Fr.of_grown hg4) (fun j e => (Ha.out.lt j e.symm).1)
              go_roundw
              case rel => exact ⟨k + 1, A4, c4, by omega, by go_num, rfl, by rw [Hts.out]; exact hown4, X4.out⟩
              case measure => simp [intOf]; omega
            · have hkI : decide ((k : Int) < 12) = false := decide_eq_false (by omega)
              have hk4 : k = 12 := by omega
              have Ho5 : Hid (wr.ownsRow (w.heap.size + 2) 5 1 (.slice A' 64 c') 64 (bs (allP key ctr nonce))) := by
                have h := Ho.out
                subst hk4
                rw [List.take_of_length_le (by rw [Hn.out]; exact Nat.le_refl _)] at h
                exact h
              have e64 : 52 + k = 64 := by omega
              rw [e64]
              clear hlt hk hk4 Ho e64
              go_wp2_with fail
              clear hkI
              obtain ⟨W, rfl⟩ : ∃ W, W = wr := ⟨_, rfl⟩
              obtain ⟨g5, cap5, hv5, _, hg5⟩ := Ho5.out.form (by decide)
              injection hv5 with hA5 _ hc5
              subst hA5 hc5
              have hcap := (Sl.of_own Ho5.out).cap
              obtain ⟨B, hB⟩ : ∃ B, B = beginP key ctr nonce := ⟨_, rfl⟩
              have HB := Lib.hid hB
              have HBl : Hid (B.length = 16) := by rw [hB]; rfl
              have HBk : Hid (∀ k, k < 16 → B[k]? = some (leAt (allP key ctr nonce) (4 * k))) := by
                intro k h; rw [hB]; exact begin_at key ctr nonce Hk.out h
              clear hB
              have Hw := Lib.hid X.out.sz
              go_loopw [12, 13] (fun v i w2 => ∃ (k : Nat) (A2 : Option Addr) (c2 : Nat), k ≤ 16 ∧ i = .int .i64 ((4 * k : Nat) : Int) ∧ v = .slice A2 k c2 ∧ Hid (w2.ownsRow W.heap.size 24 1 (.slice A2 k c2) k (wl (B.take k))) ∧ Hid (Below W.heap.size W w2)) (fun _ i _ => 64 - (intOf i).toNat)
              case atStart => exact ⟨0, none, 0, Nat.zero_le _, rfl, rfl, World.ownsRow_nil _ _ _ _, Below.refl _ _⟩
              case round =>
                obtain ⟨k, A2, c2, hk, rfl, rfl, Ho, Hb⟩ := hrel
                by_cases hlt : k < 16
                · obtain ⟨p, hp⟩ : ∃ p, p = 4 * k := ⟨_, rfl⟩
                  rw [← hp]
                  have hpI : (p : Int) < 64 := by omega
                  have hp0 : (0 : Int) ≤ (p : Int) := by omega
                  have hpc : ((p : Int) + 4) ≤ (c' : Int) := by omega
                  have hpc2 : p ≤ 64 := by omega
                  have hcp : ¬ c' = p := by omega
                  have Hp := Lib.hid hp
                  have sA : Hid (Sl wr (fun j => w.heap.size + 2 ≤ j ∧ j < W.heap.size ∧ (Value.slice (some ⟨g5, 0, none⟩) 64 c').ownBlock = some j) (some ⟨g5, 0, none⟩) 64 c' (allP key ctr nonce)) :=
                    (Sl.of_own Ho5.out).fr (Fr.of_below (M := NoB) Hb.out) (fun j hj => ⟨hj.2.1, id⟩)
                  clear hp
                  go_wp2_with fail
                  have hal : (allP key ctr nonce).length = 64 := sA.out.len
                  have sD : Hid (Sl wr (fun j => w.heap.size + 2 ≤ j ∧ j < W.heap.size ∧ (Value.slice (some ⟨g5, 0, none⟩) 64 c').ownBlock = some j) (some ⟨g5, p, none⟩) 4 (c' - p) (((allP key ctr nonce).drop p).take 4)) := by
                    have h1 := sA.out.drop_ (m := p) (A' := some ⟨g5, p, none⟩) hpc2 (.inr (by show _ = some ((⟨g5, 0, none⟩ : Addr).add p); rw [addr_add_zero, Nat.zero_add]))
                    have h2 : Sl wr (fun j => w.heap.size + 2 ≤ j ∧ j < W.heap.size ∧ (Value.slice (some ⟨g5, 0, none⟩) 64 c').ownBlock = some j) (some ⟨g5, p, none⟩) (64 - p) (c' - p) (((allP key ctr nonce).drop p).take 4 ++ ((allP key ctr nonce).drop p).drop 4) := by rw [List.take_append_drop]; exact h1
                    exact h2.take_ (by rw [List.length_take, List.length_drop, hal]; have := Hp.out; omega)
                  refine (word_any sD.out (Nat.le_refl 4)).mono ?_
                  rintro e w4 ⟨rfl, y, hw4⟩
                  rw [leAt_cut]
                  obtain ⟨x4, hx4⟩ : ∃ x4, x4 = leAt (allP key ctr nonce) p := ⟨_, rfl⟩
                  rw [← hx4]
                  have Htk : Hid (B.take (k + 1) = B.take k ++ [x4]) := by
                    have hkB : k < B.length := by rw [HBl.out]; exact hlt
                    show _ = _
                    rw [List.take_succ_eq_append_getElem hkB]
                    have h := HBk.out k hlt
                    rw [List.getElem?_eq_getElem hkB, ← Hp.out, ← hx4] at h
                    rw [Option.some.inj h]
                  have Ho4 : Hid (w4.ownsRow W.heap.size 24 1 (.slice A2 k c2) k (wl (B.take k))) := by rw [hw4]; exact Ho.out
                  have Hb4 : Hid (Below W.heap.size W w4) := by rw [hw4]; exact below_drewN Hb.out y
                  clear hw4 hx4 sD sA Ho Hb hal
                  have Ha := Lib.hid (Ho4.out.alloc (.cells #[.int .u32 (wv x4)] 24))
                  have Hba : Hid (Below W.heap.size W (w4.alloc (.cells #[.int .u32 (wv x4)] 24))) := Hb4.out.alloc Hb4.out.size _
                  have Hr1 : Hid (Rd (w4.alloc (.cells #[.int .u32 (wv x4)] 24)) (some ⟨w4.heap.size, 0, none⟩) (wl [x4])) := Rd.of_block (heap_alloc_new w4 (.cells #[.int .u32 (wv x4)] 24))
                  go_wp2_with (refine append_words rfl (.tmp 55) (.tmp 62) rfl W.heap.size A2 k c2 (B.take k) rfl Ha.out (some ⟨w4.heap.size, 0, none⟩) 1 1 [x4] rfl rfl Hr1.out (by omega) Hba.out.size ?_
                               intro A6 c6 w6 hown6 hg6 _)
                  have Hb6 : Hid (Below W.heap.size W w6) := Hba.out.grown hg6 Hba.out.size (fun j hj => (Ha.out.lt j hj).1)
                  go_roundw
                  case rel => exact ⟨k + 1, A6, c6, by omega, (by have := Hp.out; congr 1; omega), rfl, by rw [Htk.out]; exact hown6, Hb6.out⟩
                  case measure => simp [intOf]; omega
                · have hk4 : k = 16 := by omega
                  subst hk4
                  have Ho7 : Hid (wr.ownsRow W.heap.size 24 1 (.slice A2 16 c2) 16 (wl B)) := by
                    have h := Ho.out
                    rw [List.take_of_length_le (by rw [HBl.out]; exact Nat.le_refl _)] at h
                    exact h
                  go_wp2_with fail
                  go_ret
                  obtain ⟨g7, cap7, hv7, hg7, hg7l⟩ := Ho7.out.form (by decide)
                  injection hv7 with hA7 _ hc7
                  subst hA7 hc7
                  have hsz := Hw.out
                  exact ⟨g7, c2, rfl, by omega, hg7l, by rw [← HB.out]; exact own_base Ho7.out, X.out.fr.trans (Hb.out.mono (by omega))⟩
end Go.Proofs.Ytobbcnajmocpfaa
