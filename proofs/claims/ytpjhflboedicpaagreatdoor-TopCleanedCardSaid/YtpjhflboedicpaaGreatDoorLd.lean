/- Part of the proof's own library: sound rules for the short texts of functions, for every program. No condition. -/
import Derived.Test.YtpjhflboedicpaaGreatDoorLc
import Derived.Lib.ConvBytes
import Derived.Deep.OwnRows
set_option linter.unusedVariables false
set_option linter.unusedSimpArgs false
namespace Go.W
open Go
def I64 (n : Int) : Prop := -9223372036854775808 ≤ n ∧ n ≤ 9223372036854775807
def zig (n : Int) : Nat := if 0 ≤ n then (2 * n).toNat else (-2 * n - 1).toNat
def unzig (u : Nat) : Int := if u % 2 = 0 then ((u / 2 : Nat) : Int) else -((u / 2 : Nat) : Int) - 1
theorem zig_lt {n : Int} (h : I64 n) : zig n < 2 ^ 64 := by unfold zig; obtain ⟨h1, h2⟩ := h; split <;> omega
theorem unzig_zig (n : Int) : unzig (zig n) = n := by
  unfold unzig zig
  by_cases h : 0 ≤ n
  · rw [if_pos h, if_pos (by omega)]; omega
  · rw [if_neg h, if_neg (by omega)]; omega
def put7 (u : Nat) : Bs := if h : u < 128 then [UInt8.ofNat u] else UInt8.ofNat (u % 128 + 128) :: put7 (u / 128)
termination_by u
decreasing_by omega
def vput (n : Int) : Bs := put7 (zig n)
def vtk (k u : Nat) : Bs → Option (Nat × Bs)
  | [] => none
  | c :: s => if k = 10 then none else if 128 ≤ c.toNat then vtk (k + 1) (u + (c.toNat % 128) * 2 ^ (7 * k)) s else
    if (1 ≤ k ∧ c.toNat = 0) ∨ (k = 9 ∧ 1 < c.toNat) then none else some (u + (c.toNat % 128) * 2 ^ (7 * k), s)
def vtake (s : Bs) : Option (Int × Bs) := match vtk 0 0 s with | some (u, r) => some (unzig u, r) | none => none
theorem toNat_ofNat8 {u : Nat} (h : u < 256) : (UInt8.ofNat u).toNat = u := by simp; omega
theorem vtk_put : ∀ (u k a : Nat) (s : Bs), k ≤ 9 → u < 2 ^ (64 - 7 * k) → (1 ≤ k → 0 < u) → vtk k a (put7 u ++ s) = some (a + u * 2 ^ (7 * k), s) := by
  intro u
  induction u using Nat.strongRecOn with
  | _ u ih =>
    intro k a s hk hu h0
    rw [put7]
    split
    · rename_i h
      have e := toNat_ofNat8 (u := u) (by omega)
      simp only [List.cons_append, List.nil_append, vtk, e]
      rw [if_neg (by omega), if_neg (by omega), if_neg, Nat.mod_eq_of_lt h]
      rintro (⟨h1, h2⟩ | ⟨rfl, h2⟩)
      · have := h0 h1; omega
      · have : (2 : Nat) ^ (64 - 7 * 9) = 2 := by decide
        omega
    · rename_i h
      have e := toNat_ofNat8 (u := u % 128 + 128) (by omega)
      simp only [List.cons_append, vtk, e]
      have hk8 : k ≤ 8 := by
        rcases Nat.lt_or_ge k 9 with h' | h'
        · omega
        · have : k = 9 := by omega
          subst this
          have : (2 : Nat) ^ (64 - 7 * 9) = 2 := by decide
          omega
      rw [if_neg (by omega), if_pos (by omega), ih (u / 128) (by omega) (k + 1) _ s (by omega) ?_ (fun _ => by omega)]
      · have e2 : (u % 128 + 128) % 128 = u % 128 := by omega
        rw [e2, show 7 * (k + 1) = 7 * k + 7 by omega, Nat.pow_add]
        have e3 : u = u % 128 + 128 * (u / 128) := by omega
        have : u * 2 ^ (7 * k) = u % 128 * 2 ^ (7 * k) + u / 128 * (2 ^ (7 * k) * 2 ^ 7) := by
          conv => lhs; rw [e3]
          rw [Nat.add_mul]
          have : (2 : Nat) ^ 7 = 128 := by decide
          rw [this, Nat.mul_comm 128, Nat.mul_assoc, Nat.mul_comm 128]
        rw [this, Nat.add_assoc]
      · have e3 : 64 - 7 * k = (64 - 7 * (k + 1)) + 7 := by omega
        rw [e3, Nat.pow_add] at hu
        have : (2 : Nat) ^ 7 = 128 := by decide
        rw [this] at hu
        omega
theorem put7_spec : ∀ (u : Nat), ∃ l c, put7 u = l ++ [c] ∧ ∀ x ∈ l, 128 ≤ x.toNat := by
  intro u
  induction u using Nat.strongRecOn with
  | _ u ih =>
    rw [put7]
    split
    · exact ⟨[], _, rfl, fun _ h => by cases h⟩
    · rename_i h
      obtain ⟨l, c, e, hl⟩ := ih (u / 128) (by omega)
      refine ⟨UInt8.ofNat (u % 128 + 128) :: l, c, by rw [e]; rfl, fun x hx => ?_⟩
      rcases List.mem_cons.1 hx with rfl | hx
      · rw [toNat_ofNat8 (by omega)]; omega
      · exact hl x hx
theorem put7_len : ∀ (u k : Nat), u < 128 ^ (k + 1) → (put7 u).length ≤ k + 1 := by
  intro u
  induction u using Nat.strongRecOn with
  | _ u ih =>
    intro k h
    rw [put7]
    split
    · simp
    · rename_i h'
      cases k with
      | zero => exact absurd h (by simpa using h')
      | succ k =>
        have := ih (u / 128) (by omega) k (by rw [Nat.pow_succ] at h; exact Nat.div_lt_of_lt_mul (by rw [Nat.mul_comm]; exact h))
        simp only [List.length_cons]; omega
theorem vput_len {n : Int} (h : I64 n) : (vput n).length ≤ 10 := put7_len _ 9 (Nat.lt_of_lt_of_le (zig_lt h) (by decide))
theorem vtake_put {n : Int} (h : I64 n) (s : Bs) : vtake (vput n ++ s) = some (n, s) := by
  unfold vtake vput
  rw [vtk_put (zig n) 0 0 s (by omega) (by simpa using zig_lt h) (by omega)]
  simp [unzig_zig]
theorem vtk_len : ∀ (s : Bs) (k a u : Nat) (r : Bs), vtk k a s = some (u, r) → r.length < s.length
  | [], _, _, _, _, h => by simp [vtk] at h
  | c :: s, k, a, u, r, h => by
    rw [vtk] at h
    split at h
    · cases h
    · split at h
      · have := vtk_len s _ _ _ _ h; simp; omega
      · split at h
        · cases h
        · cases h; simp
theorem vtake_len {s r : Bs} {n : Int} (h : vtake s = some (n, r)) : r.length < s.length := by
  unfold vtake at h
  split at h
  · rename_i u r' e; cases h; exact vtk_len _ _ _ _ _ e
  · cases h
theorem vtk_lt : ∀ (s : Bs) (k a u : Nat) (r : Bs), k ≤ 10 → a < 2 ^ (7 * k) → vtk k a s = some (u, r) → u < 2 ^ 64
  | [], _, _, _, _, _, _, h => by simp [vtk] at h
  | c :: s, k, a, u, r, hk, ha, h => by
    rw [vtk] at h
    split at h
    · cases h
    · rename_i h10
      have hp : (c.toNat % 128) * 2 ^ (7 * k) + 2 ^ (7 * k) ≤ 2 ^ (7 * (k + 1)) := by
        rw [show 7 * (k + 1) = 7 * k + 7 by omega, Nat.pow_add]
        have : (2 : Nat) ^ 7 = 128 := by decide
        rw [this]
        have h1 : c.toNat % 128 + 1 ≤ 128 := by omega
        have := Nat.mul_le_mul_left (2 ^ (7 * k)) h1
        rw [Nat.mul_add, Nat.mul_one, Nat.mul_comm (2 ^ (7 * k)) (c.toNat % 128)] at this
        exact this
      split at h
      · exact vtk_lt s (k + 1) _ u r (by omega) (by omega) h
      · split at h
        · cases h
        · rename_i h2
          cases h
          rcases Nat.lt_or_ge k 9 with h9 | h9
          · have : (2 : Nat) ^ (7 * (k + 1)) ≤ 2 ^ 64 := Nat.pow_le_pow_right (by omega) (by omega)
            omega
          · have : k = 9 := by omega
            subst this
            have hc : c.toNat % 128 ≤ 1 := by omega
            have e1 : (2 : Nat) ^ (7 * 9) = 9223372036854775808 := by decide
            have e2 : (2 : Nat) ^ 64 = 18446744073709551616 := by decide
            rw [e1] at ha ⊢
            rw [e2]
            have : c.toNat % 128 * 9223372036854775808 ≤ 1 * 9223372036854775808 := Nat.mul_le_mul_right _ hc
            omega
theorem vtake_i64 {s r : Bs} {n : Int} (h : vtake s = some (n, r)) : I64 n := by
  unfold vtake at h
  split at h
  · rename_i u r' e
    have := vtk_lt _ _ _ _ _ (by omega) (by simp) e
    cases h
    unfold I64 unzig
    split <;> omega
  · cases h
def ptext (s : Bs) : Bs := vput s.length ++ s
def ttext (s : Bs) (most : Int) : Option (Bs × Bs) :=
  match vtake s with
  | some (n, r) => if n < 0 ∨ most < n ∨ (r.length : Int) < n then none else some (r.take n.toNat, r.drop n.toNat)
  | none => none
theorem ttext_put {s t : Bs} {most : Int} (hi : (s.length : Int) ≤ 9223372036854775807) (h : (s.length : Int) ≤ most) : ttext (ptext s ++ t) most = some (s, t) := by
  unfold ttext ptext
  rw [List.append_assoc, vtake_put ⟨by omega, hi⟩]
  simp only []
  rw [if_neg (by simp; omega)]
  simp
theorem ttext_len {s x r : Bs} {most : Int} (h : ttext s most = some (x, r)) : r.length < s.length ∧ x.length + r.length < s.length := by
  unfold ttext at h
  split at h
  · rename_i n r' e
    have := vtake_len e
    split at h
    · cases h
    · cases h; simp; omega
  · cases h
def putAll (l : List Int) : Bs := l.flatMap vput
def takeAll : Nat → Bs → Option (List Int × Bs)
  | 0, s => some ([], s)
  | n + 1, s => match vtake s with
    | some (k, r) => match takeAll n r with | some (l, r') => some (k :: l, r') | none => none
    | none => none
theorem takeAll_put : ∀ (l : List Int) (s : Bs), (∀ n ∈ l, I64 n) → takeAll l.length (putAll l ++ s) = some (l, s)
  | [], s, _ => rfl
  | n :: l, s, h => by
    have := takeAll_put l s fun x hx => h x (List.mem_cons_of_mem _ hx)
    simp only [List.length_cons, takeAll, putAll, List.flatMap_cons, List.append_assoc]
    rw [vtake_put (h n (List.mem_cons_self ..))]
    unfold putAll at this
    simp [this]
theorem takeAll_len : ∀ (n : Nat) (s r : Bs) (l : List Int), takeAll n s = some (l, r) → l.length = n ∧ r.length ≤ s.length ∧ ∀ x ∈ l, I64 x
  | 0, s, r, l, h => by simp [takeAll] at h; obtain ⟨rfl, rfl⟩ := h; simp
  | n + 1, s, r, l, h => by
    rw [takeAll] at h
    split at h
    · rename_i k r' e
      split at h
      · rename_i l' r'' e'
        cases h
        have h1 := takeAll_len n _ _ _ e'
        have h2 := vtake_len e
        refine ⟨by simp [h1.1], by omega, fun x hx => ?_⟩
        rcases List.mem_cons.1 hx with rfl | hx
        · exact vtake_i64 e
        · exact h1.2.2 x hx
      · cases h
    · cases h
theorem putAll_len {l : List Int} (h : ∀ n ∈ l, I64 n) : (putAll l).length ≤ 10 * l.length := by
  induction l with
  | nil => simp [putAll]
  | cons n l ih =>
    have h1 := ih fun x hx => h x (List.mem_cons_of_mem _ hx)
    have h2 := vput_len (h n (List.mem_cons_self ..))
    unfold putAll at h1 ⊢
    simp only [List.flatMap_cons, List.length_append, List.length_cons]; omega
def crcStep (r : Int) : Int := if iand .u32 r 1 == 1 then ixor .u32 (ishr .u32 r 1) 2197175160 else ishr .u32 r 1
def crcByte (r : Int) (b : UInt8) : Int := Nat.rec (ixor .u32 r (wr32 b.toNat)) (fun _ x => crcStep x) 8
def crcOf (s : Bs) : Int := inot .u32 (s.foldl crcByte (inot .u32 0))
def le4 (c : Int) : Bs := bytesOf [wr8 c, wr8 (ishr .u32 c 8), wr8 (ishr .u32 c 16), wr8 (ishr .u32 c 24)]
def sealed (s : Bs) : Bs := s ++ le4 (crcOf s)
def unsealed (s : Bs) : Option Bs := if 4 ≤ s.length ∧ sealed (s.take (s.length - 4)) = s then some (s.take (s.length - 4)) else none
@[simp] theorem le4_len (c : Int) : (le4 c).length = 4 := by simp [le4]
theorem unsealed_sealed (s : Bs) : unsealed (sealed s) = some s := by
  unfold unsealed
  have e : (sealed s).take ((sealed s).length - 4) = s := by unfold sealed; simp
  rw [e, if_pos ⟨by simp [sealed], rfl⟩]
abbrev Ent := Int × Int × Bs × Unit
def fcheck (e : Ent) : Bool := decide (0 ≤ e.1 ∧ e.1 ≤ 1099511627776 ∧ 1 ≤ e.2.1 ∧ e.2.1 ≤ 64 ∧ e.2.2.1.length ≤ 65536)
def flay (e : Ent) : Bs := sealed (ptext (putAll [e.1, e.2.1] ++ e.2.2.1))
def fst0 : Option (Bs × Bs) → Bs
  | some (b, _) => b
  | none => []
def ftake (s : Bs) : Option (Ent × Bs) :=
  match ttext s 131072 with
  | none => none
  | some (_, rest) => if rest.length < 4 then none else
    match unsealed (s.take (s.length - rest.length + 4)) with
    | none => none
    | some t => match takeAll 2 (fst0 (ttext t t.length)) with
      | some ([x, y], text) => match fcheck (x, y, text, ()) with | true => some ((x, y, text, ()), rest.drop 4) | false => none
      | _ => none
theorem fbody_len {e : Ent} (h : fcheck e = true) : (putAll [e.1, e.2.1] ++ e.2.2.1).length ≤ 65556 := by
  simp only [fcheck, decide_eq_true_eq] at h
  have := putAll_len (l := [e.1, e.2.1]) (by intro n hn; simp at hn; rcases hn with rfl | rfl <;> constructor <;> omega)
  simp only [List.length_append]; simp at this; omega
theorem ftake_lay {e : Ent} (h : fcheck e = true) (s : Bs) : ftake (flay e ++ s) = some (e, s) := by
  have hb := fbody_len h
  have hc := h
  simp only [fcheck, decide_eq_true_eq] at h
  unfold ftake flay sealed
  generalize hB : putAll [e.1, e.2.1] ++ e.2.2.1 = B at hb
  generalize hC : le4 (crcOf (ptext B)) = C
  have hC4 : C.length = 4 := by rw [← hC]; simp
  rw [List.append_assoc, ttext_put (by omega) (by omega)]
  simp only []
  rw [if_neg (by simp; omega)]
  have e1 : (ptext B ++ (C ++ s)).take ((ptext B ++ (C ++ s)).length - (C ++ s).length + 4) = sealed (ptext B) := by
    have : (ptext B ++ (C ++ s)).length - (C ++ s).length + 4 = (ptext B ++ C).length := by simp; omega
    rw [this, ← List.append_assoc, List.take_left' rfl, sealed, hC]
  rw [e1, unsealed_sealed]
  simp only []
  have e2 : ttext (ptext B) (ptext B).length = some (B, []) := by
    have := ttext_put (s := B) (t := []) (most := (ptext B).length) (by omega) (by unfold ptext; simp; omega)
    rwa [List.append_nil] at this
  rw [e2, show fst0 (some (B, [])) = B from rfl]
  have e3 : takeAll 2 B = some ([e.1, e.2.1], e.2.2.1) := by
    rw [← hB]
    exact takeAll_put [e.1, e.2.1] _ (by intro n hn; simp at hn; rcases hn with rfl | rfl <;> constructor <;> omega)
  rw [e3]
  obtain ⟨x, y, t, u⟩ := e
  simp only at hc ⊢
  rw [hc]
  have : (C ++ s).drop 4 = s := by rw [← hC4]; exact List.drop_left' rfl
  simp [this]
theorem ftake_nil : ftake [] = none := rfl
theorem ftake_len {s r : Bs} {e : Ent} (h : ftake s = some (e, r)) : r.length < s.length := by
  unfold ftake at h
  split at h
  · cases h
  · rename_i x rest e1
    have := ttext_len e1
    split at h
    · cases h
    · split at h
      · cases h
      · split at h
        · split at h
          · cases h; simp; omega
          · cases h
        · cases h
def rowM (s : Bs) : List (Int × Ent) :=
  match h : ftake s with
  | some (e, r) => ((s.length : Int) - r.length, e) :: rowM r
  | none => []
termination_by s.length
decreasing_by exact ftake_len h
theorem rowM_some {s r : Bs} {e : Ent} (h : ftake s = some (e, r)) : rowM s = ((s.length : Int) - r.length, e) :: rowM r := by
  rw [rowM]; split <;> rename_i h' <;> rw [h] at h' <;> cases h'; rfl
theorem rowM_none {s : Bs} (h : ftake s = none) : rowM s = [] := by
  rw [rowM]; split
  · rename_i h'; rw [h] at h'; cases h'
  · rfl
end Go.W
namespace Go.W
open Go
theorem wr64_eq (x : Int) : wr64 x = x % 18446744073709551616 := by unfold wr64 IntKind.wrap; rfl
theorem wr8_eq (x : Int) : wr8 x = x % 256 := by unfold wr8 IntKind.wrap; rfl
theorem w64_eq (x : Int) : w64 x = (x + 9223372036854775808) % 18446744073709551616 - 9223372036854775808 := IntKind.wrap_i64 x
theorem ofInt_nat (n : Nat) (m : Nat) : (BitVec.ofInt n (m : Int)).toNat = m % 2 ^ n := by simp
theorem iand_u8 (a b : Nat) (ha : a < 256) (hb : b < 256) : iand .u8 a b = ((a &&& b : Nat) : Int) := by
  show wr8 ((BitVec.ofInt 8 (a : Int) &&& BitVec.ofInt 8 (b : Int)).toNat : Int) = _
  rw [BitVec.toNat_and, ofInt_nat, ofInt_nat, Nat.mod_eq_of_lt (by omega), Nat.mod_eq_of_lt (by omega), wr8_eq]
  have : a &&& b ≤ a := Nat.and_le_left
  omega
theorem iand_u64 (a b : Nat) (ha : a < 2 ^ 64) (hb : b < 2 ^ 64) : iand .u64 a b = ((a &&& b : Nat) : Int) := by
  show wr64 ((BitVec.ofInt 64 (a : Int) &&& BitVec.ofInt 64 (b : Int)).toNat : Int) = _
  rw [BitVec.toNat_and, ofInt_nat, ofInt_nat, Nat.mod_eq_of_lt (by omega), Nat.mod_eq_of_lt (by omega), wr64_eq]
  have : a &&& b ≤ a := Nat.and_le_left
  omega
theorem ior_u8 (a b : Nat) (ha : a < 256) (hb : b < 256) : ior .u8 a b = ((a ||| b : Nat) : Int) := by
  show wr8 ((BitVec.ofInt 8 (a : Int) ||| BitVec.ofInt 8 (b : Int)).toNat : Int) = _
  rw [BitVec.toNat_or, ofInt_nat, ofInt_nat, Nat.mod_eq_of_lt (by omega), Nat.mod_eq_of_lt (by omega), wr8_eq]
  have : a ||| b < 2 ^ 8 := Nat.or_lt_two_pow (by omega) (by omega)
  omega
theorem ior_u64 (a b : Nat) (ha : a < 2 ^ 64) (hb : b < 2 ^ 64) : ior .u64 a b = ((a ||| b : Nat) : Int) := by
  show wr64 ((BitVec.ofInt 64 (a : Int) ||| BitVec.ofInt 64 (b : Int)).toNat : Int) = _
  rw [BitVec.toNat_or, ofInt_nat, ofInt_nat, Nat.mod_eq_of_lt (by omega), Nat.mod_eq_of_lt (by omega), wr64_eq]
  have : a ||| b < 2 ^ 64 := Nat.or_lt_two_pow ha hb
  omega
theorem ixor_u64 (a b : Nat) (ha : a < 2 ^ 64) (hb : b < 2 ^ 64) : ixor .u64 a b = ((a ^^^ b : Nat) : Int) := by
  show wr64 ((BitVec.ofInt 64 (a : Int) ^^^ BitVec.ofInt 64 (b : Int)).toNat : Int) = _
  rw [BitVec.toNat_xor, ofInt_nat, ofInt_nat, Nat.mod_eq_of_lt (by omega), Nat.mod_eq_of_lt (by omega), wr64_eq]
  have : a ^^^ b < 2 ^ 64 := Nat.xor_lt_two_pow ha hb
  omega
theorem xor_ones64 (x : BitVec 64) : (x ^^^ BitVec.allOnes 64).toNat = 18446744073709551615 - x.toNat := by
  rw [BitVec.xor_allOnes, BitVec.toNat_not]
theorem ones_ofNat : BitVec.ofInt 64 18446744073709551615 = BitVec.allOnes 64 := by decide
theorem ones_ofInt : BitVec.ofInt 64 (-1) = BitVec.allOnes 64 := by decide
theorem ishr_u64 (u : Nat) : ishr .u64 u 1 = ((u / 2 : Nat) : Int) := by
  show (u : Int).fdiv (2 ^ (min (Int.toNat 1) 64)) = _
  have : min (Int.toNat 1) 64 = 1 := by decide
  rw [this]; show (u : Int).fdiv ((2 : Nat) : Int) = _
  rw [← Int.ofNat_fdiv]
theorem ishr_u64_7 (u : Nat) : ishr .u64 u 7 = ((u / 128 : Nat) : Int) := by
  show (u : Int).fdiv (2 ^ (min (Int.toNat 7) 64)) = _
  have : min (Int.toNat 7) 64 = 7 := by decide
  rw [this]; show (u : Int).fdiv ((128 : Nat) : Int) = _
  rw [← Int.ofNat_fdiv]
theorem zig_text {n : Int} (h : I64 n) : ixor .u64 (ishl .u64 (wr64 n) 1) (wr64 (ishr .i64 n 63)) = (zig n : Int) := by
  obtain ⟨h1, h2⟩ := h
  have e1 : min (Int.toNat 1) 64 = 1 := by decide
  have e2 : min (Int.toNat 63) 64 = 63 := by decide
  have hs : ishr .i64 n 63 = n / 9223372036854775808 := by
    show n.fdiv (2 ^ (min (Int.toNat 63) 64)) = _
    rw [e2]; show n.fdiv 9223372036854775808 = _
    rw [Int.fdiv_eq_ediv_of_nonneg _ (by omega)]
  have hl : ishl .u64 (wr64 n) 1 = (2 * n) % 18446744073709551616 := by
    show wr64 (wr64 n * 2 ^ (min (Int.toNat 1) 64)) = _
    rw [e1, wr64_eq, wr64_eq]; omega
  rw [hs, hl]
  unfold zig
  by_cases hn : 0 ≤ n
  · rw [if_pos hn, show n / 9223372036854775808 = 0 by omega, show (2 * n) % 18446744073709551616 = ((2 * n).toNat : Int) by omega, show wr64 0 = ((0 : Nat) : Int) by rw [wr64_eq]; rfl, ixor_u64 _ _ (by omega) (by omega)]
    simp
  · rw [if_neg hn, show n / 9223372036854775808 = -1 by omega, show wr64 (-1) = 18446744073709551615 by rw [wr64_eq]; rfl]
    show wr64 ((BitVec.ofInt 64 ((2 * n) % 18446744073709551616) ^^^ BitVec.ofInt 64 18446744073709551615).toNat : Int) = _
    rw [ones_ofNat, xor_ones64, show (2 * n) % 18446744073709551616 = (((2 * n) % 18446744073709551616).toNat : Int) by omega, ofInt_nat, wr64_eq]
    omega
theorem unzig_text {u : Nat} (h : u < 2 ^ 64) : ixor .i64 (w64 (ishr .u64 u 1)) (w64 (0 - w64 (iand .u64 u 1))) = unzig u := by
  have ha : iand .u64 (u : Int) 1 = ((u % 2 : Nat) : Int) := by
    have := iand_u64 u 1 h (by decide)
    rw [show ((1 : Nat) : Int) = 1 from rfl] at this
    rw [this, Nat.and_one_is_mod]
  rw [ha, ishr_u64]
  unfold unzig
  have hb : w64 ((u / 2 : Nat) : Int) = ((u / 2 : Nat) : Int) := by rw [w64_eq]; omega
  rw [hb]
  by_cases hu : u % 2 = 0
  · rw [if_pos hu, hu]
    have : w64 (0 - w64 ((0 : Nat) : Int)) = ((0 : Nat) : Int) := by rw [w64_eq, w64_eq]; rfl
    rw [this]
    show w64 ((BitVec.ofInt 64 ((u / 2 : Nat) : Int) ^^^ BitVec.ofInt 64 ((0 : Nat) : Int)).toNat : Int) = _
    rw [BitVec.toNat_xor, ofInt_nat, ofInt_nat, Nat.mod_eq_of_lt (by omega), Nat.mod_eq_of_lt (by omega), Nat.xor_zero, hb]
  · rw [if_neg hu, show u % 2 = 1 by omega]
    have : w64 (0 - w64 ((1 : Nat) : Int)) = -1 := by rw [w64_eq, w64_eq]; rfl
    rw [this]
    show w64 ((BitVec.ofInt 64 ((u / 2 : Nat) : Int) ^^^ BitVec.ofInt 64 (-1)).toNat : Int) = _
    rw [ones_ofInt, xor_ones64, ofInt_nat, w64_eq]
    omega
theorem and127 (c : Nat) (h : c < 256) : iand .u8 (c : Int) 127 = ((c % 128 : Nat) : Int) := by
  have := iand_u8 c 127 h (by omega)
  rw [show ((127 : Nat) : Int) = 127 from rfl] at this
  rw [this, show (127 : Nat) = 2 ^ 7 - 1 by decide, Nat.and_two_pow_sub_one_eq_mod]
theorem or_place {k u c : Nat} (hk : k ≤ 8 ∨ k = 9 ∧ c % 128 ≤ 1) (hu : u < 2 ^ (7 * k)) (hc : c < 256) :
    ior .u64 u (ishl .u64 (wr64 (iand .u8 c 127)) (w64 (7 * (k : Int)))) = ((u + c % 128 * 2 ^ (7 * k) : Nat) : Int) ∧ u + c % 128 * 2 ^ (7 * k) < 2 ^ (7 * (k + 1)) := by
  have hp : c % 128 * 2 ^ (7 * k) + 2 ^ (7 * k) ≤ 2 ^ (7 * (k + 1)) := by
    rw [show 7 * (k + 1) = 7 * k + 7 by omega, Nat.pow_add, show (2 : Nat) ^ 7 = 128 by decide]
    have := Nat.mul_le_mul_left (2 ^ (7 * k)) (show c % 128 + 1 ≤ 128 by omega)
    rw [Nat.mul_add, Nat.mul_one, Nat.mul_comm (2 ^ (7 * k)) (c % 128)] at this
    exact this
  have hlt : u + c % 128 * 2 ^ (7 * k) < 2 ^ 64 := by
    rcases hk with hk | ⟨rfl, hk⟩
    · have : (2 : Nat) ^ (7 * (k + 1)) ≤ 2 ^ 64 := Nat.pow_le_pow_right (by omega) (by omega)
      omega
    · have e1 : (2 : Nat) ^ (7 * 9) = 9223372036854775808 := by decide
      rw [e1] at hu ⊢
      have := Nat.mul_le_mul_right 9223372036854775808 hk
      omega
  refine ⟨?_, by omega⟩
  have hsh : ishl .u64 (wr64 (iand .u8 (c : Int) 127)) (w64 (7 * (k : Int))) = ((2 ^ (7 * k) * (c % 128) : Nat) : Int) := by
    have e0 : w64 (7 * (k : Int)) = ((7 * k : Nat) : Int) := by rw [w64_eq]; omega
    rw [and127 c hc, e0]
    show wr64 (wr64 ((c % 128 : Nat) : Int) * 2 ^ (min (Int.toNat ((7 * k : Nat) : Int)) 64)) = _
    have e1 : min (Int.toNat ((7 * k : Nat) : Int)) 64 = 7 * k := by simp; omega
    rw [e1, wr64_eq ((c % 128 : Nat) : Int), show ((c % 128 : Nat) : Int) % 18446744073709551616 = ((c % 128 : Nat) : Int) by omega, wr64_eq]
    have e2 : (((c % 128 : Nat) : Int)) * 2 ^ (7 * k) = ((2 ^ (7 * k) * (c % 128) : Nat) : Int) := by
      rw [Nat.mul_comm (2 ^ (7 * k)), Int.natCast_mul, Int.natCast_pow]; rfl
    rw [e2]
    have : 2 ^ (7 * k) * (c % 128) < 2 ^ 64 := by rw [Nat.mul_comm]; omega
    omega
  rw [hsh, ior_u64 _ _ (by omega) (by rw [Nat.mul_comm]; omega), Nat.or_comm, ← Nat.two_pow_add_eq_or_of_lt hu, Nat.add_comm, Nat.mul_comm]
theorem or128 (u : Nat) : ior .u8 (wr8 (u : Int)) 128 = ((u % 128 + 128 : Nat) : Int) := by
  have h0 : wr8 (u : Int) = ((u % 256 : Nat) : Int) := by rw [wr8_eq]; omega
  have := ior_u8 (u % 256) 128 (by omega) (by omega)
  rw [show ((128 : Nat) : Int) = 128 from rfl] at this
  rw [h0, this]
  have e : ∀ x : Fin 256, x.val ||| 128 = x.val % 128 + 128 := by
    set_option maxRecDepth 10000 in decide
  have := e ⟨u % 256, by omega⟩
  simp only at this
  rw [this]; congr 1; omega
end Go.W
namespace Go.W
open Go
theorem rdS.head {s : Sl} {k : Kd} {xs : List (KT k)} {m : Nat} {w : World} (h : rdS s k xs w) (h2 : m ≤ xs.length) : rdS ⟨s.a, m, s.cap⟩ k (xs.take m) w := by
  obtain ⟨g1, g2, g3⟩ := h
  refine ⟨by simp; omega, by simp; omega, ?_⟩
  rcases g3 with g3 | ⟨b, pre, post, e, fr, ha, hb⟩
  · left; simp; omega
  · right
    refine ⟨b, pre, rows k (xs.drop m) ++ post, e, fr, ha, ?_⟩
    rw [hb]
    have e2 : rows k xs = rows k (xs.take m) ++ rows k (xs.drop m) := by rw [← rows_append, List.take_append_drop]
    rw [e2]; simp
theorem set_tail {α : Type} (l rest : List α) (y : α) (h : 0 < rest.length) : (l ++ rest).set l.length y = (l ++ [y]) ++ rest.tail := by
  cases rest with
  | nil => simp at h
  | cons x rest => simp
end Go.W
namespace Go.W
open Go
class HasI (A : Assn) (Γ : List Assn) (Δ : outParam (List Assn)) : Prop where
  sat : ∀ {π h}, Sat Γ π h ↔ Sat (A :: Δ) π h
instance (priority := high) HasI.here {A : Assn} {Γ : List Assn} : HasI A (A :: Γ) Γ := ⟨Iff.rfl⟩
instance (priority := low) HasI.there {A B : Assn} {Γ Δ : List Assn} [h : HasI A Γ Δ] : HasI A (B :: Γ) (B :: Δ) := by
  have : Has (fun a : Assn => a) A Γ Δ := ⟨h.sat⟩
  exact ⟨(Has.there (f := fun a : Assn => a) (x := A) (B := B)).sat⟩
theorem SH.takeI {o : Fix} {Γ Δ : List Assn} {w : World} (A : Assn) [H : HasI A Γ Δ] (h : SH o Γ w) : SH o (A :: Δ) w := h.imp fun _ _ => H.sat.1
class SubA (Γ' Γ : List Assn) : Prop where
  sat : ∀ {π h}, Sat Γ π h → ∃ h' r : Frag, h'.disj r ∧ h = h'.add r ∧ Sat Γ' π h'
instance (priority := high) SubA.same {Γ : List Assn} : SubA Γ Γ := ⟨fun {_ h} hs => ⟨h, Frag.emp, Frag.disj_emp h, (Frag.add_emp h).symm, hs⟩⟩
instance (priority := low) SubA.none {Γ : List Assn} : SubA [] Γ := ⟨fun {_ h} _ => ⟨Frag.emp, h, Frag.emp_disj h, (Frag.emp_add h).symm, rfl⟩⟩
instance SubA.cons {A : Assn} {Γ' Γ Δ : List Assn} [H : HasI A Γ Δ] [S : SubA Γ' Δ] : SubA (A :: Γ') Γ := by
  refine ⟨fun hs => ?_⟩
  obtain ⟨h1, h2, hd, rfl, ha, hs⟩ := H.sat.1 hs
  obtain ⟨h3, r, hd', rfl, hs'⟩ := S.sat hs
  obtain ⟨d1, d2⟩ := Frag.disj_add.1 hd
  exact ⟨h1.add h3, r, (Frag.disj_add.2 ⟨d2.symm, hd'.symm⟩).symm, (Frag.add_assoc ..).symm, h1, h3, d1, rfl, ha, hs'⟩
instance (priority := low) SubA.skip {B : Assn} {Γ' Γ : List Assn} [S : SubA Γ' Γ] : SubA Γ' (B :: Γ) := by
  refine ⟨fun hs => ?_⟩
  obtain ⟨h1, h2, hd, rfl, ha, hs⟩ := hs
  obtain ⟨h3, r, hd', rfl, hs'⟩ := S.sat hs
  obtain ⟨d1, d2⟩ := Frag.disj_add.1 hd
  refine ⟨h3, h1.add r, Frag.disj_add.2 ⟨d1.symm, hd'⟩, ?_, hs'⟩
  rw [← Frag.add_assoc, Frag.add_comm d1, Frag.add_assoc]
theorem SH.to {o : Fix} {Γ Γ' : List Assn} {w : World} (h : SH o Γ w) [S : SubA Γ' Γ] : SH o Γ' w := by
  obtain ⟨π, h, h1, h2, h3, h4, h5, hs⟩ := h
  obtain ⟨h', r, hd, rfl, hs'⟩ := S.sat hs
  exact ⟨π, h', (Frag.disj_add.1 h1).1, h2, fun b x hb => h3 b x (Frag.le_add _ _ b x hb), h4, h5, hs'⟩
section
variable {o : Fix} {Γ : List Assn} {w : World} {A B C D : Assn}
theorem SH.star2 : SH o (starA [A, B] :: Γ) w ↔ SH o (A :: B :: Γ) w := SH.star
end
end Go.W
namespace Go.W
open Go
abbrev Rec := Int × Int × Bs × Unit
def inB (n : Int) : Bool := decide (0 ≤ n ∧ n ≤ 1099511627776)
def mayRec (r : Rec) : Bool := decide (0 ≤ r.1 ∧ r.1 ≤ 1048576) && inB r.2.1 && decide (r.2.2.1.length ≤ 512)
def bkind (k p e q : Int) (n : Nat) : Bool := decide ((k = 1 ∧ 0 < n ∧ (0 < p ∧ 0 < e ∨ p = 0 ∧ e = 0 ∧ q = 0)) ∨ (k = 2 ∧ 0 < n ∧ 0 < p ∧ 0 < e) ∨ ((k = 3 ∨ k = 4) ∧ n = 0 ∧ (0 < p ∧ 0 < e) ∧ q = 0))
def bmay (k p e q : Int) (rs : List Rec) : Bool := decide (0 ≤ p ∧ p ≤ 8) && inB e && inB q && decide (rs.length ≤ 64) && rs.all mayRec && bkind k p e q rs.length
theorem mayRec_spec {r : Rec} (h : mayRec r = true) : (0 ≤ r.1 ∧ r.1 ≤ 1048576) ∧ (0 ≤ r.2.1 ∧ r.2.1 ≤ 1099511627776) ∧ r.2.2.1.length ≤ 512 := by
  simp [mayRec, inB, and_assoc] at h; omega
theorem bmay_spec {k p e q : Int} {rs : List Rec} (h : bmay k p e q rs = true) : (0 ≤ p ∧ p ≤ 8) ∧ (0 ≤ e ∧ e ≤ 1099511627776) ∧ (0 ≤ q ∧ q ≤ 1099511627776) ∧ rs.length ≤ 64 ∧ (∀ r ∈ rs, mayRec r = true) ∧ bkind k p e q rs.length = true := by
  simp only [bmay, inB, Bool.and_eq_true, decide_eq_true_eq, List.all_eq_true] at h
  obtain ⟨⟨⟨⟨⟨h1, h2⟩, h3⟩, h4⟩, h5⟩, h6⟩ := h
  exact ⟨h1, h2, h3, h4, h5, h6⟩
theorem bkind_k {k p e q : Int} {n : Nat} (h : bkind k p e q n = true) : 1 ≤ k ∧ k ≤ 4 := by simp [bkind] at h; omega
def encRec (r : Rec) : Bs := putAll [r.1, r.2.1] ++ ptext r.2.2.1
def encRecs (rs : List Rec) : Bs := rs.flatMap encRec
def encB (k p e q : Int) (rs : List Rec) : Bs := putAll [k, p, e, q, rs.length] ++ encRecs rs
def takeRec (s : Bs) : Option (Rec × Bs) :=
  match takeAll 2 s with
  | some ([a, b], r) => match ttext r 512 with
    | some (t, r') => match mayRec (a, b, t, ()) with | true => some ((a, b, t, ()), r') | false => none
    | none => none
  | _ => none
def takeRecs : Nat → Bs → Option (List Rec × Bs)
  | 0, s => some ([], s)
  | n + 1, s => match takeRec s with
    | some (x, r) => match takeRecs n r with | some (l, r') => some (x :: l, r') | none => none
    | none => none
abbrev Bt := Int × Int × Int × Int × List Rec
def decB (s : Bs) : Option Bt :=
  match takeAll 5 s with
  | some ([k, p, e, q, n], r) => if n < 0 ∨ 64 < n then none else match takeRecs n.toNat r with
    | some (rs, []) => match bmay k p e q rs with | true => some (k, p, e, q, rs) | false => none
    | _ => none
  | _ => none
theorem takeRec_enc {r : Rec} (h : mayRec r = true) (s : Bs) : takeRec (encRec r ++ s) = some (r, s) := by
  have hs := mayRec_spec h
  unfold takeRec encRec
  rw [List.append_assoc, show takeAll 2 (putAll [r.1, r.2.1] ++ (ptext r.2.2.1 ++ s)) = some ([r.1, r.2.1], ptext r.2.2.1 ++ s) from
    takeAll_put [r.1, r.2.1] _ (by intro n hn; simp at hn; rcases hn with rfl | rfl <;> constructor <;> omega)]
  simp only []
  rw [ttext_put (by omega) (by omega)]
  obtain ⟨a, b, t, _⟩ := r
  simp only
  rw [h]
theorem takeRecs_enc : ∀ (rs : List Rec) (s : Bs), (∀ r ∈ rs, mayRec r = true) → takeRecs rs.length (encRecs rs ++ s) = some (rs, s)
  | [], s, _ => rfl
  | r :: rs, s, h => by
    have := takeRecs_enc rs s fun x hx => h x (List.mem_cons_of_mem _ hx)
    unfold encRecs at this
    simp only [List.length_cons, takeRecs, encRecs, List.flatMap_cons, List.append_assoc]
    rw [takeRec_enc (h r (List.mem_cons_self ..))]
    simp only []
    rw [this]
theorem decB_enc {k p e q : Int} {rs : List Rec} (h : bmay k p e q rs = true) : decB (encB k p e q rs) = some (k, p, e, q, rs) := by
  obtain ⟨h1, h2, h3, h4, h5, h6⟩ := bmay_spec h
  have hk := bkind_k h6
  unfold decB encB
  rw [show takeAll 5 (putAll [k, p, e, q, rs.length] ++ encRecs rs) = some ([k, p, e, q, (rs.length : Int)], encRecs rs) from
    takeAll_put [k, p, e, q, (rs.length : Int)] _ (by intro n hn; simp at hn; rcases hn with rfl | rfl | rfl | rfl | rfl <;> constructor <;> omega)]
  simp only []
  have := takeRecs_enc rs [] h5
  rw [List.append_nil] at this
  rw [if_neg (by omega), Int.toNat_natCast, this]
  simp only [h]
theorem encRec_len {r : Rec} (h : mayRec r = true) : (encRec r).length ≤ 542 := by
  obtain ⟨h1, h2, h3⟩ := mayRec_spec h
  have g1 := putAll_len (l := [r.1, r.2.1]) (by intro n hn; simp at hn; rcases hn with rfl | rfl <;> constructor <;> omega)
  have g2 := vput_len (n := r.2.2.1.length) ⟨by omega, by omega⟩
  unfold encRec ptext; simp at g1 ⊢; omega
theorem encRecs_len : ∀ {rs : List Rec}, (∀ r ∈ rs, mayRec r = true) → (encRecs rs).length ≤ 542 * rs.length
  | [], _ => by simp [encRecs]
  | r :: rs, h => by
    have g1 := encRec_len (h r (List.mem_cons_self ..))
    have g2 := encRecs_len fun x hx => h x (List.mem_cons_of_mem _ hx)
    unfold encRecs at g2 ⊢
    simp only [List.flatMap_cons, List.length_append, List.length_cons]; omega
theorem encB_len {k p e q : Int} {rs : List Rec} (h : bmay k p e q rs = true) : (encB k p e q rs).length ≤ 34738 := by
  obtain ⟨h1, h2, h3, h4, h5, h6⟩ := bmay_spec h
  have hk := bkind_k h6
  have g1 := encRecs_len h5
  have g2 := putAll_len (l := [k, p, e, q, (rs.length : Int)]) (by intro n hn; simp at hn; rcases hn with rfl | rfl | rfl | rfl | rfl <;> constructor <;> omega)
  unfold encB; simp at g2 ⊢; omega
theorem takeRec_len {s r : Bs} {x : Rec} (h : takeRec s = some (x, r)) : r.length < s.length ∧ mayRec x = true := by
  unfold takeRec at h
  split at h
  · rename_i a b r1 e1
    have h1 := (takeAll_len _ _ _ _ e1).2.1
    split at h
    · rename_i t r2 e2
      have h2 := ttext_len e2
      split at h
      · rename_i e3; cases h; exact ⟨by omega, e3⟩
      · cases h
    · cases h
  · cases h
end Go.W
namespace Go.W
open Go
def mpWf (ents : Array MapEntry) (clock : Nat) : Prop := (∀ e ∈ ents.toList, e.born < clock) ∧ (ents.toList.map (·.born)).Nodup
def mpA (m : Nat) (kk kv : Kd) (es : List (KT kk × KT kv)) : Assn :=
  ⟨fun _ h => ∃ (ents : Array MapEntry) (clock : Nat), ents.toList.map (fun e => (e.key, e.val)) = es.map (fun q => (KV kk q.1, KV kv q.2)) ∧ mpWf ents clock ∧ h = Frag.one m (.map ents clock), fun _ h => h⟩
class TyKey (P : Program) (t : TypeId) (k : outParam Kd) : Prop where
  eqv : ∀ (x y : KT k) (w : World), ∃ b, (Op.equal t (KV k x) (KV k y)).run P w = .ok b w ∧ (b = true ↔ x = y)
  chk : ∀ (e : Bool) (x : KT k) (w : World), (Instr.checkKey e 10000 t (KV k x)).run P w = .ok () w
  bits : ∀ x : KT k, Instr.sameBits 10000 (KV k x) (KV k x) = true
  now : ∃ d, P.underlying t = some d ∧ ((∀ x y : KT k, ∃ b, Instr.sameNow d (KV k x) (KV k y) = some b ∧ (b = true ↔ x = y)) ∨ ∀ x y : KT k, Instr.sameNow d (KV k x) (KV k y) = none)
def Fnd {α β : Type} (es : List (α × β)) (x : α) : Option (Nat × β) → Prop
  | some (i, v) => es[i]? = some (x, v) ∧ ∀ j, j < i → ∀ q, es[j]? = some q → q.1 ≠ x
  | none => ∀ q ∈ es, q.1 ≠ x
theorem Fnd.cons {α β : Type} {es : List (α × β)} {x : α} {q : α × β} (hq : q.1 ≠ x) : ∀ {r : Option (Nat × β)}, Fnd es x r → Fnd (q :: es) x (r.map fun p => (p.1 + 1, p.2))
  | some (i, v), ⟨h1, h2⟩ => ⟨by simpa using h1, fun j hj p hp => by
      cases j with
      | zero => simp at hp; subst hp; exact hq
      | succ j => exact h2 j (by omega) p (by simpa using hp)⟩
  | none, h => fun p hp => by
      rcases List.mem_cons.1 hp with rfl | hp
      · exact hq
      · exact h p hp
section
variable {P : Program} {t : TypeId} {k kv : Kd}
theorem findAsking_run [hk : TyKey P t k] (x : KT k) (w : World) : ∀ (ents : List MapEntry) (es : List (KT k × KT kv)) (n : Nat), ents.map (fun e => (e.key, e.val)) = es.map (fun q => (KV k q.1, KV kv q.2)) →
    ∃ r, (Instr.findAsking t (KV k x) ents n).run P w = .ok (r.map fun p => (n + p.1, KV kv p.2)) w ∧ Fnd es x r
  | [], es, n, h => by
    cases es with
    | nil => exact ⟨none, by simp [Instr.findAsking], fun q hq => by cases hq⟩
    | cons q es => simp at h
  | e :: ents, es, n, h => by
    cases es with
    | nil => simp at h
    | cons q es =>
      simp only [List.map_cons, List.cons.injEq, Prod.mk.injEq] at h
      obtain ⟨⟨h1, h2⟩, h3⟩ := h
      obtain ⟨b, hb, hbx⟩ := hk.eqv x q.1 w
      cases b with
      | true =>
        have hx := hbx.1 rfl
        refine ⟨some (0, q.2), ?_, ?_⟩
        · simp [Instr.findAsking, h1, h2, hb]
        · refine ⟨by simp [hx], fun j hj => by omega⟩
      | false =>
        have hx : q.1 ≠ x := fun e => by have := hbx.2 e.symm; cases this
        obtain ⟨r, hr, hf⟩ := findAsking_run x w ents es (n + 1) h3
        refine ⟨r.map fun p => (p.1 + 1, p.2), ?_, hf.cons hx⟩
        simp [Instr.findAsking, h1, hb, hr]
        cases r with
        | none => rfl
        | some p => simp; omega
theorem findNow_run [hk : TyKey P t k] {d : TypeDesc} (hn : ∀ x y : KT k, ∃ b, Instr.sameNow d (KV k x) (KV k y) = some b ∧ (b = true ↔ x = y)) (x : KT k) : ∀ (ents : List MapEntry) (es : List (KT k × KT kv)) (n : Nat), ents.map (fun e => (e.key, e.val)) = es.map (fun q => (KV k q.1, KV kv q.2)) →
    ∃ r, Instr.findNow d (KV k x) ents n = some (r.map fun p => (n + p.1, KV kv p.2)) ∧ Fnd es x r
  | [], es, n, h => by
    cases es with
    | nil => exact ⟨none, by simp [Instr.findNow], fun q hq => by cases hq⟩
    | cons q es => simp at h
  | e :: ents, es, n, h => by
    cases es with
    | nil => simp at h
    | cons q es =>
      simp only [List.map_cons, List.cons.injEq, Prod.mk.injEq] at h
      obtain ⟨⟨h1, h2⟩, h3⟩ := h
      obtain ⟨b, hb, hbx⟩ := hn x q.1
      cases b with
      | true =>
        have hx := hbx.1 rfl
        refine ⟨some (0, q.2), ?_, ?_⟩
        · simp [Instr.findNow, h1, h2, hb]
        · refine ⟨by simp [hx], fun j hj => by omega⟩
      | false =>
        have hx : q.1 ≠ x := fun e => by have := hbx.2 e.symm; cases this
        obtain ⟨r, hr, hf⟩ := findNow_run hn x ents es (n + 1) h3
        refine ⟨r.map fun p => (p.1 + 1, p.2), ?_, hf.cons hx⟩
        simp [Instr.findNow, h1, hb, hr]
        cases r with
        | none => rfl
        | some p => simp; omega
theorem findKey_run [hk : TyKey P t k] (x : KT k) (w : World) (ents : List MapEntry) (es : List (KT k × KT kv)) (h : ents.map (fun e => (e.key, e.val)) = es.map (fun q => (KV k q.1, KV kv q.2))) :
    ∃ r, (Instr.findKey t (KV k x) ents).run P w = .ok (r.map fun p => (p.1, KV kv p.2)) w ∧ Fnd es x r := by
  obtain ⟨d, hd, hn | hn⟩ := hk.now
  · obtain ⟨r, hr, hf⟩ := findNow_run (P := P) (t := t) hn x ents es 0 h
    refine ⟨r, ?_, hf⟩
    simp [Instr.findKey, run_underlying hd, hr]
  · obtain ⟨r, hr, hf⟩ := findAsking_run (P := P) (t := t) x w ents es 0 h
    refine ⟨r, ?_, hf⟩
    have e : Instr.findNow d (KV k x) ents 0 = none ∨ (ents = [] ∧ Instr.findNow d (KV k x) ents 0 = some none) := by
      cases ents with
      | nil => right; simp [Instr.findNow]
      | cons e ents =>
        left
        cases es with
        | nil => simp at h
        | cons q es =>
          simp only [List.map_cons, List.cons.injEq, Prod.mk.injEq] at h
          simp [Instr.findNow, h.1.1, hn]
    rcases e with e | ⟨rfl, e⟩
    · simp only [Instr.findKey, Sem.run_bind, run_underlying hd, Result.andThen_ok, e, hr]
      congr 1; cases r <;> simp
    · simp only [Instr.findKey, Sem.run_bind, run_underlying hd, Result.andThen_ok, e, Sem.run_pure]
      simp [Instr.findAsking] at hr
      cases r with
      | none => rfl
      | some p => simp at hr
end
section
variable {P : Program} {o : Fix} {Γ Δ : List Assn} {w : World}
class HasM (m : Nat) (kk kv : outParam Kd) (es : outParam (List (KT kk × KT kv))) (Γ : List Assn) (Δ : outParam (List Assn)) : Prop where
  sat : ∀ {π h}, Sat Γ π h ↔ Sat (mpA m kk kv es :: Δ) π h
instance (priority := high) HasM.here {m : Nat} {kk kv : Kd} {es : List (KT kk × KT kv)} {Γ : List Assn} : HasM m kk kv es (mpA m kk kv es :: Γ) Γ := ⟨Iff.rfl⟩
instance (priority := low) HasM.there {m : Nat} {kk kv : Kd} {es : List (KT kk × KT kv)} {B : Assn} {Γ Δ : List Assn} [h : HasM m kk kv es Γ Δ] : HasM m kk kv es (B :: Γ) (B :: Δ) := by
  have : HasI (mpA m kk kv es) Γ Δ := ⟨h.sat⟩
  exact ⟨(HasI.there (A := mpA m kk kv es) (B := B)).sat⟩
theorem mp_open {m : Nat} {kk kv : Kd} {es : List (KT kk × KT kv)} (h : SH o (mpA m kk kv es :: Γ) w) : ∃ (ents : Array MapEntry) (clock : Nat), ents.toList.map (fun e => (e.key, e.val)) = es.map (fun q => (KV kk q.1, KV kv q.2)) ∧ mpWf ents clock ∧ SH o (objA m (.map ents clock) :: Γ) w := by
  obtain ⟨π, h, h1, h2, h3, h4, h5, a, r, hd, he, ⟨ents, clock, g1, g3, g2⟩, hs⟩ := h
  exact ⟨ents, clock, g1, g3, π, h, h1, h2, h3, h4, h5, a, r, hd, he, g2, hs⟩
theorem mp_close {m : Nat} {kk kv : Kd} {es : List (KT kk × KT kv)} {ents : Array MapEntry} {clock : Nat} (g1 : ents.toList.map (fun e => (e.key, e.val)) = es.map (fun q => (KV kk q.1, KV kv q.2))) (g2 : mpWf ents clock) (h : SH o (objA m (.map ents clock) :: Γ) w) : SH o (mpA m kk kv es :: Γ) w :=
  h.conseq fun _ _ hp => ⟨ents, clock, g1, g2, hp⟩
theorem mp_heap {m : Nat} {kk kv : Kd} {es : List (KT kk × KT kv)} (h : SH o (mpA m kk kv es :: Γ) w) : ∃ (ents : Array MapEntry) (clock : Nat), ents.toList.map (fun e => (e.key, e.val)) = es.map (fun q => (KV kk q.1, KV kv q.2)) ∧ SH o (objA m (.map ents clock) :: Γ) w := by
  obtain ⟨ents, clock, g1, _, g2⟩ := mp_open h
  exact ⟨ents, clock, g1, g2⟩
theorem mkm_ok {t : TypeId} {kk kv : Kd} {K : Nat → World → Prop} (h : SH o Γ w) (hK : ∀ m w', SH o (mpA m kk kv [] :: Γ) w' → K m w') : mkm P t K w := by
  refine ⟨w.heap.size, w.alloc (.map #[] 0), by simp [Instr.makeMap, newObj, Sem.run, KV], hK _ _ ?_⟩
  exact (h.allocObj (.map #[] 0)).conseq (A := objA w.heap.size (.map #[] 0)) (B := mpA w.heap.size kk kv []) fun π h hp => ⟨#[], 0, rfl, ⟨by simp, by simp⟩, hp⟩
theorem lookup_run {t tk te : TypeId} {m : Nat} {kk kv : Kd} {es : List (KT kk × KT kv)} {x : KT kk} {z : KT kv} (h : SH o Γ w) [hm : HasM m kk kv es Γ Δ] [ht : TyMp P t tk te] [hk : TyKey P tk kk] [hz : TyZ P te kv z] (ok : Bool) :
    ∃ r, (Instr.lookup t (.map (some m)) (KV kk x) ok).run P w = .ok (match r with | some (_, v) => if ok then .tuple #[KV kv v, .bool true] else KV kv v | none => if ok then .tuple #[KV kv z, .bool false] else KV kv z) w ∧ Fnd es x r := by
  obtain ⟨ents, clock, g1, g2⟩ := mp_heap (h.imp fun _ _ => hm.sat.1)
  have hh := g2.heap
  obtain ⟨r, hr, hf⟩ := findKey_run (P := P) (t := tk) x w ents.toList es g1
  refine ⟨r, ?_, hf⟩
  have hzv : (zeroValue te).run P w = .ok (KV kv z) w := by
    have := hz.ok
    cases hi : P.info? te with
    | none => simp [hi] at this
    | some i => simp [hi] at this; simp [zeroValue, typeInfo, program, Sem.run, hi, this]
  have hg : (getObj m).run P w = .ok (.map ents clock) w := by simp [getObj, Sem.run, hh]
  cases r with
  | none => cases ok <;> simp [Instr.lookup, run_underlying ht.ok, hg, hk.chk, hr, hzv]
  | some p => obtain ⟨i, v⟩ := p; cases ok <;> simp [Instr.lookup, run_underlying ht.ok, hg, hk.chk, hr]
theorem lku_ok {t tk te : TypeId} {m : Nat} {kk kv : Kd} {es : List (KT kk × KT kv)} {x : KT kk} {z : KT kv} {K : KT kv → World → Prop} (h : SH o Γ w) [hm : HasM m kk kv es Γ Δ] [ht : TyMp P t tk te] [hk : TyKey P tk kk] [hz : TyZ P te kv z]
    (h1 : ∀ i v, Fnd es x (some (i, v)) → K v w) (h2 : Fnd es x none → K z w) : lku P t (some m) kk x kv K w := by
  obtain ⟨r, hr, hf⟩ := lookup_run (P := P) (t := t) (m := m) (x := x) h false
  cases r with
  | none => exact ⟨z, by rw [hr]; rfl, h2 hf⟩
  | some p => obtain ⟨i, v⟩ := p; exact ⟨v, by rw [hr]; rfl, h1 i v hf⟩
theorem mup_ok {t tk te : TypeId} {m : Nat} {kk kv : Kd} {es : List (KT kk × KT kv)} {x : KT kk} {y : KT kv} {K : World → Prop} (h : SH o Γ w) [hm : HasM m kk kv es Γ Δ] [ht : TyMp P t tk te] [hk : TyKey P tk kk]
    (h1 : ∀ i v w', Fnd es x (some (i, v)) → SH o (mpA m kk kv (es.set i (x, y)) :: Δ) w' → K w') (h2 : ∀ w', Fnd es x none → SH o (mpA m kk kv (es ++ [(x, y)]) :: Δ) w' → K w') : mup P t (some m) kk x kv y K w := by
  obtain ⟨ents, clock, g1, g3, g2⟩ := mp_open (h.imp fun _ _ => hm.sat.1)
  have hh := g2.heap
  obtain ⟨r, hr, hf⟩ := findKey_run (P := P) (t := tk) x w ents.toList es g1
  have hg : (getObj m).run P w = .ok (.map ents clock) w := by simp [getObj, Sem.run, hh]
  have hlen : ents.size = es.length := by have := congrArg List.length g1; simpa using this
  have hset : ∀ ob : Obj, (setObj m ob).run P w = .ok () (w.putObj m ob) := fun ob => by simp [setObj, Sem.run, hh, World.putObj]
  cases r with
  | none =>
    refine ⟨w.putObj m (.map (ents.push { key := KV kk x, val := KV kv y, born := clock }) (clock + 1)), ?_, h2 _ hf ?_⟩
    · simp [Instr.mapUpdate, run_underlying ht.ok, hg, hk.chk, hr, hset]
    · refine mp_close (by simp [g1]) ⟨?_, ?_⟩ (g2.putObj _)
      · intro e he
        simp only [Array.toList_push, List.mem_append, List.mem_singleton] at he
        rcases he with he | rfl
        · have := g3.1 e he; omega
        · simp
      · simp only [Array.toList_push, List.map_append, List.map_cons, List.map_nil]
        refine List.nodup_append.2 ⟨g3.2, by simp, fun a ha b hb => ?_⟩
        obtain ⟨e, he, rfl⟩ := List.mem_map.1 ha
        simp only [List.mem_singleton] at hb
        have := g3.1 e he; omega
  | some p =>
    obtain ⟨i, v⟩ := p
    have hi : es[i]? = some (x, v) := hf.1
    have hlt : i < ents.size := by rw [hlen]; exact (List.getElem?_eq_some_iff.1 hi).1
    have hkey : ents[i].key = KV kk x := by
      have := congrArg (fun l => l[i]?) g1
      simp only [List.getElem?_map, Array.getElem?_toList, hi, Array.getElem?_eq_getElem hlt, Option.map_some, Option.some.injEq, Prod.mk.injEq] at this
      exact this.1
    refine ⟨w.putObj m (.map (ents.modify i fun e => { e with key := KV kk x, val := KV kv y }) clock), ?_, h1 i v _ hf ?_⟩
    · have hst : (Instr.keyThatStays (KV kk x) (KV kk x)).run P w = .ok (KV kk x) w := by
        unfold Instr.keyThatStays
        rw [if_pos (hk.bits x)]; rfl
      have hget : (((ents[i]?).map (·.key)).getD (KV kk x)) = KV kk x := by simp [Array.getElem?_eq_getElem hlt, hkey]
      simp [Instr.mapUpdate, run_underlying ht.ok, hg, hk.chk, hr, hget, hst, hset]
    · have hb : (ents.modify i fun e => { e with key := KV kk x, val := KV kv y }).toList.map (·.born) = ents.toList.map (·.born) := by
        apply List.ext_getElem?
        intro j
        simp only [List.getElem?_map, Array.getElem?_toList, Array.getElem?_modify]
        split
        · cases ents[j]? <;> rfl
        · rfl
      refine mp_close ?_ ⟨fun e he => ?_, by rw [hb]; exact g3.2⟩ (g2.putObj _)
      rotate_left
      · have : e.born ∈ (ents.modify i fun e => { e with key := KV kk x, val := KV kv y }).toList.map (·.born) := List.mem_map_of_mem he
        rw [hb] at this
        obtain ⟨e', he', h'⟩ := List.mem_map.1 this
        rw [← h']; exact g3.1 e' he'
      apply List.ext_getElem?
      intro j
      have := congrArg (fun l => l[j]?) g1
      simp only [List.getElem?_map, Array.getElem?_toList, Array.getElem?_modify, List.getElem?_set] at this ⊢
      by_cases e : i = j
      · subst e
        simp only [if_true]
        rw [if_pos (by rw [← hlen]; exact hlt), Array.getElem?_eq_getElem hlt]; simp
      · simp only [if_neg e]; exact this
theorem map_erase {α β : Type} (f : α → β) (l : List α) (i : Nat) : (l.eraseIdx i).map f = (l.map f).eraseIdx i := by simp [List.eraseIdx_eq_take_drop_succ]
theorem del_ok {t tk te tu tx : TypeId} {m : Nat} {kk kv : Kd} {es : List (KT kk × KT kv)} {x : KT kk} {K : Value → World → Prop} (h : SH o Γ w) [hm : HasM m kk kv es Γ Δ] [ht : TyMp P t tk te] [hk : TyKey P tk kk]
    (h1 : ∀ i v w', Fnd es x (some (i, v)) → SH o (mpA m kk kv (es.eraseIdx i) :: Δ) w' → K (.tuple #[]) w') (h2 : ∀ w', Fnd es x none → SH o (mpA m kk kv es :: Δ) w' → K (.tuple #[]) w') : mop P (Builtin.delete_ #[t, tx] tu #[.map (some m), KV kk x]) .v K w := by
  obtain ⟨ents, clock, g1, g3, g2⟩ := mp_open (h.imp fun _ _ => hm.sat.1)
  have hh := g2.heap
  obtain ⟨r, hr, hf⟩ := findKey_run (P := P) (t := tk) x w ents.toList es g1
  have hg : (getObj m).run P w = .ok (.map ents clock) w := by simp [getObj, Sem.run, hh]
  have hlen : ents.size = es.length := by have := congrArg List.length g1; simpa using this
  have hset : ∀ ob : Obj, (setObj m ob).run P w = .ok () (w.putObj m ob) := fun ob => by simp [setObj, Sem.run, hh, World.putObj]
  cases r with
  | none =>
    refine ⟨.tuple #[], w.putObj m (.map ents clock), ?_, h2 _ hf (mp_close g1 g3 (g2.putObj _))⟩
    simp [Builtin.delete_, run_underlying ht.ok, hg, hk.chk, hr, hset, KV]
  | some p =>
    obtain ⟨i, v⟩ := p
    have hi : es[i]? = some (x, v) := hf.1
    have hlt : i < ents.size := by rw [hlen]; exact (List.getElem?_eq_some_iff.1 hi).1
    have he : (ents.eraseIdxIfInBounds i).toList = ents.toList.eraseIdx i := by rw [Array.toList_eraseIdxIfInBounds]
    refine ⟨.tuple #[], w.putObj m (.map (ents.eraseIdxIfInBounds i) clock), ?_, h1 i v _ hf (mp_close ?_ ⟨fun e hm => ?_, ?_⟩ (g2.putObj _))⟩
    · simp [Builtin.delete_, run_underlying ht.ok, hg, hk.chk, hr, hset, KV]
    · rw [he, map_erase, map_erase, g1]
    · rw [he] at hm; exact g3.1 e (List.mem_of_mem_eraseIdx hm)
    · rw [he, map_erase]; exact g3.2.sublist (List.eraseIdx_sublist ..)
end
theorem bytes_beq (a b : Bs) : ((⟨a.toArray⟩ : ByteArray) == ⟨b.toArray⟩) = decide (a = b) := by
  show (a.toArray == b.toArray) = _
  rw [Bool.eq_iff_iff]; simp
theorem sameBits_s (n : Nat) (a b : ByteArray) : Instr.sameBits n (.string a) (.string b) = (a == b) := by cases n <;> rfl
instance TyKey.str {P : Program} {t : TypeId} [ht : TyD P t .string] : TyKey P t .s where
  eqv x y w := ⟨decide (x = y), by
    show (Op.equalIn (9999 + 1) t _ _).run P w = _
    rw [Op.equalIn]
    simp [run_underlying ht.ok, KV, bytes_beq], by simp⟩
  chk e x w := by
    show (Instr.checkKey e (9999 + 1) t _).run P w = _
    rw [Instr.checkKey]
    simp [run_underlying ht.ok, KV]
  bits x := by rw [KV, sameBits_s, bytes_beq]; simp
  now := ⟨.string, ht.ok, .inl fun x y => ⟨decide (x = y), by simp [Instr.sameNow, KV, bytes_beq], by simp⟩⟩
theorem sameBits_i (n : Nat) (j k : IntKind) (a b : Int) : Instr.sameBits n (.int j a) (.int k b) = (j == k && a == b) := by cases n <;> rfl
end Go.W
namespace Go.W
open Go
section
variable {P : Program} {o : Fix} {Γ Δ : List Assn} {w : World}
theorem s2a_ok {t te : TypeId} {n : Nat} {s : Sl} {K : Option Addr → World → Prop} [ht : TyD P t (.array n te)] (hl : n ≤ s.len) (hK : K s.a w) : mrd P (Instr.arrayAt t (.slice s.a s.len s.cap)) .p K w := by
  refine ⟨_, ?_, hK⟩
  simp [Instr.arrayAt, run_underlying ht.ok, KV, Nat.not_lt.2 hl]
end
end Go.W
namespace Go.W
open Go
theorem Sat.perm {Γ Γ' : List Assn} (hp : Γ.Perm Γ') : ∀ {π h}, Sat Γ π h → Sat Γ' π h := by
  induction hp with
  | nil => exact fun h => h
  | cons A _ ih => rintro π h ⟨h1, h2, hd, e, ha, hs⟩; exact ⟨h1, h2, hd, e, ha, ih hs⟩
  | swap A B Γ => exact fun h => Sat.swap h
  | trans _ _ ih1 ih2 => exact fun h => ih2 (ih1 h)
theorem SH.perm {o : Fix} {Γ Γ' : List Assn} {w : World} (h : SH o Γ w) (hp : Γ.Perm Γ') : SH o Γ' w := h.imp fun _ _ hs => hs.perm hp
theorem map_pick {α : Type} {L : List α} {i : Nat} {q : α} (f : α → Assn) (hq : L[i]? = some q) : (L.map f).Perm (f q :: (L.eraseIdx i).map f) := by
  have h := List.getElem?_eq_some_iff.1 hq
  have : L.Perm (L[i]'h.1 :: L.eraseIdx i) := by
    rw [List.eraseIdx_eq_take_drop_succ]
    conv => lhs; rw [← List.take_append_drop i L, List.drop_eq_getElem_cons h.1]
    exact List.perm_middle
  have := this.map f
  rw [h.2] at this
  exact this
def arrA (a : Addr) (t : TypeId) (k : Kd) (xs : List (KT k)) : Assn := andA (a.off = 0 ∧ a.spot = none) (objA a.block (cellsO (rows k xs) t))
class HasAr (a : Addr) (t : outParam TypeId) (k : outParam Kd) (xs : outParam (List (KT k))) (Γ : List Assn) (Δ : outParam (List Assn)) : Prop where
  sat : ∀ {π h}, Sat Γ π h ↔ Sat (arrA a t k xs :: Δ) π h
instance (priority := high) HasAr.here {a : Addr} {t : TypeId} {k : Kd} {xs : List (KT k)} {Γ : List Assn} : HasAr a t k xs (arrA a t k xs :: Γ) Γ := ⟨Iff.rfl⟩
instance (priority := low) HasAr.there {a : Addr} {t : TypeId} {k : Kd} {xs : List (KT k)} {B : Assn} {Γ Δ : List Assn} [h : HasAr a t k xs Γ Δ] : HasAr a t k xs (B :: Γ) (B :: Δ) := by
  have : HasI (arrA a t k xs) Γ Δ := ⟨h.sat⟩
  exact ⟨(HasI.there (A := arrA a t k xs) (B := B)).sat⟩
section
variable {P : Program} {o : Fix} {Γ Δ : List Assn} {w : World}
theorem vr_arr {a : Addr} {t : TypeId} {k ke : Kd} {x : KT k} {xs : List (KT ke)} (e : KC k x = rows ke xs) : vr a t k x = arrA a t ke xs := by unfold vr arrA; rw [e]
theorem rows_pack (k : Kd) : ∀ (xs : List (KT k)), ∃ x : KTs (List.replicate xs.length k), KCs (List.replicate xs.length k) x = rows k xs
  | [] => ⟨(), rfl⟩
  | x :: xs => by
    obtain ⟨y, hy⟩ := rows_pack k xs
    exact ⟨(x, y), by simp only [List.length_cons, List.replicate_succ, KCs, hy, rows, List.flatMap_cons]⟩
theorem ixa_ar {t t' te : TypeId} {k : Kd} {n : Nat} {b : Addr} {kk : IntKind} {i : Int} {xs : List (KT k)} {K : Addr → World → Prop} (h : SH o Γ w) [hr : HasAr b t' k xs Γ Δ] [ht : TyD P t (.array n te)] [hk : TyK P te k] (h0 : 0 ≤ i) (h1 : i < n)
    (hK : ∀ a, EA (arS b n) k i.toNat a → K a w) : mrd P (Instr.indexAt t (.pointer (some b)) (.int kk i)) .ad K w := by
  obtain ⟨⟨_, hs⟩, _⟩ := SH.and.1 (h.imp fun _ _ => hr.sat.1)
  obtain ⟨d, inf, hu, hi, hr, hs', _⟩ := hk.spec
  obtain ⟨bb, off, spot⟩ := b
  simp only at hs; subst hs
  refine ⟨⟨bb, off + i.toNat * wd k, none⟩, ?_, hK _ ⟨bb, off, rfl, rfl⟩⟩
  simp [Instr.indexAt, asIntOf, run_underlying ht.ok, Instr.sureAddr, h0, h1, sizeOf, typeInfo, hi, hs', KV, Addr.add_mid]
theorem ld_ar {n : Nat} {b : Addr} {t t' : TypeId} {k : Kd} {xs : List (KT k)} {i : Nat} {a : Addr} {x : KT k} {K : KT k → World → Prop} (ea : EA (arS b n) k i a) (h : SH o Γ w) [hr : HasAr b t k xs Γ Δ] [TyK P t' k]
    (hx : xs[i]? = some x) (hK : K x w) : ld P t' a k K w := by
  obtain ⟨⟨h0, hs⟩, h2⟩ := SH.and.1 (h.imp fun _ _ => hr.sat.1)
  obtain ⟨bb, off, e1, rfl⟩ := ea
  simp only [arS, Option.some.injEq] at e1
  subst e1
  simp only at h0; subst h0
  have hb := h2.heap
  have hlt := (List.getElem?_eq_some_iff.1 hx).1
  rw [rows_at hx] at hb
  have hl := rows_len k (xs.take i)
  rw [List.length_take, Nat.min_eq_left (by omega)] at hl
  exact ⟨x, run_loadAt_k (rangeAt_cells (e := t) (fr := (0, 0)) (pre := rows k (xs.take i)) (mid := KC k x) (post := rows k (xs.drop (i + 1))) (by simpa using hb) (by simp [hl])), hK⟩
theorem sto_ar {n : Nat} {b : Addr} {t t' : TypeId} {k : Kd} {xs : List (KT k)} {i : Nat} {a : Addr} {y : KT k} {K : World → Prop} (ea : EA (arS b n) k i a) (h : SH o Γ w) [hr : HasAr b t k xs Γ Δ] [TyK P t' k]
    (hi : i < xs.length) (hK : ∀ w', SH o (arrA b t k (xs.set i y) :: Δ) w' → K w') (hok : okV k y := by exact okV_plain rfl _) : sto P t' a k y K w := by
  obtain ⟨⟨h0, hs⟩, h2⟩ := SH.and.1 (h.imp fun _ _ => hr.sat.1)
  obtain ⟨bb, off, e1, rfl⟩ := ea
  simp only [arS, Option.some.injEq] at e1
  subst e1
  simp only at h0; subst h0
  have hb := h2.heap
  simp only at hb h2
  have hlen : 0 + i * wd k + wd k ≤ (rows k xs).length := by
    rw [rows_len]
    have : (i + 1) * wd k ≤ xs.length * wd k := Nat.mul_le_mul_right _ hi
    rw [Nat.add_mul] at this; omega
  refine ⟨_, run_storeAt_k (off := 0 + i * wd k) hb hlen hok, hK _ (SH.and.2 ⟨⟨rfl, rfl⟩, ?_⟩)⟩
  have hx := List.getElem?_eq_getElem hi
  have hxi : (xs.set i y)[i]? = some y := by simp [hi]
  have t1 : (xs.set i y).take i = xs.take i := by rw [List.take_set_of_le (Nat.le_refl i)]
  have t2 : (xs.set i y).drop (i + 1) = xs.drop (i + 1) := by rw [List.drop_set_of_lt (by omega)]
  have hl := rows_len k (xs.take i)
  rw [List.length_take, Nat.min_eq_left (by omega)] at hl
  have e4 : (rows k xs).take (0 + i * wd k) ++ KC k y ++ (rows k xs).drop (0 + i * wd k + wd k) = rows k (xs.set i y) := by
    rw [rows_at hx, rows_at hxi, t1, t2, Nat.zero_add, ← hl, List.append_assoc (rows k (xs.take i)), List.take_left' rfl, List.drop_length_add_append]
    congr 1
    rw [List.drop_append_of_le_length (by rw [KC_len]; omega), List.drop_eq_nil_of_le (by rw [KC_len]; omega), List.nil_append]
  rw [e4]
  exact h2.put (cellsO (rows k (xs.set i y)) t) (heap_setRow hb _) rfl rfl
end
end Go.W
