/- Part of the proof's own library: sound rules for the short texts of functions, for every program. No condition. -/
import Derived.Test.YtegjokkkdkaphaaGreatDoorLc
import Derived.Lib.ConvBytes
import Derived.Deep.OwnRows
set_option linter.unusedVariables false
set_option linter.unusedSimpArgs false
/- Plain law: numbers and texts as bytes. -/
namespace Go.W
open Go

def I64 (n : Int) : Prop := -9223372036854775808 ≤ n ∧ n ≤ 9223372036854775807
def zig (n : Int) : Nat := if 0 ≤ n then (2 * n).toNat else (-2 * n - 1).toNat
def unzig (u : Nat) : Int := if u % 2 = 0 then ((u / 2 : Nat) : Int) else -((u / 2 : Nat) : Int) - 1
theorem zig_lt {n : Int} (h : I64 n) : zig n < 2 ^ 64 := by unfold zig; obtain ⟨h1, h2⟩ := h; split <;> omega
theorem unzig_zig (n : Int) : unzig (zig n) = n := by
  unfold unzig zig
  by_cases h : 0 ≤ n
  · rw [if_pos h, if_pos (by omega)]; omega
  · rw [if_neg h, if_neg (by omega)]; omega

def put7 (u : Nat) : Bs := if h : u < 128 then [UInt8.ofNat u] else UInt8.ofNat (u % 128 + 128) :: put7 (u / 128)
termination_by u
decreasing_by omega
def vput (n : Int) : Bs := put7 (zig n)
def vtk (k u : Nat) : Bs → Option (Nat × Bs)
  | [] => none
  | c :: s => if k = 10 then none else if 128 ≤ c.toNat then vtk (k + 1) (u + (c.toNat % 128) * 2 ^ (7 * k)) s else
    if (1 ≤ k ∧ c.toNat = 0) ∨ (k = 9 ∧ 1 < c.toNat) then none else some (u + (c.toNat % 128) * 2 ^ (7 * k), s)
def vtake (s : Bs) : Option (Int × Bs) := match vtk 0 0 s with | some (u, r) => some (unzig u, r) | none => none

theorem toNat_ofNat8 {u : Nat} (h : u < 256) : (UInt8.ofNat u).toNat = u := by simp; omega

theorem vtk_put : ∀ (u k a : Nat) (s : Bs), k ≤ 9 → u < 2 ^ (64 - 7 * k) → (1 ≤ k → 0 < u) → vtk k a (put7 u ++ s) = some (a + u * 2 ^ (7 * k), s) := by
  intro u
  induction u using Nat.strongRecOn with
  | _ u ih =>
    intro k a s hk hu h0
    rw [put7]
    split
    · rename_i h
      have e := toNat_ofNat8 (u := u) (by omega)
      simp only [List.cons_append, List.nil_append, vtk, e]
      rw [if_neg (by omega), if_neg (by omega), if_neg, Nat.mod_eq_of_lt h]
      rintro (⟨h1, h2⟩ | ⟨rfl, h2⟩)
      · have := h0 h1; omega
      · have : (2 : Nat) ^ (64 - 7 * 9) = 2 := by decide
        omega
    · rename_i h
      have e := toNat_ofNat8 (u := u % 128 + 128) (by omega)
      simp only [List.cons_append, vtk, e]
      have hk8 : k ≤ 8 := by
        rcases Nat.lt_or_ge k 9 with h' | h'
        · omega
        · have : k = 9 := by omega
          subst this
          have : (2 : Nat) ^ (64 - 7 * 9) = 2 := by decide
          omega
      rw [if_neg (by omega), if_pos (by omega), ih (u / 128) (by omega) (k + 1) _ s (by omega) ?_ (fun _ => by omega)]
      · have e2 : (u % 128 + 128) % 128 = u % 128 := by omega
        rw [e2, show 7 * (k + 1) = 7 * k + 7 by omega, Nat.pow_add]
        have e3 : u = u % 128 + 128 * (u / 128) := by omega
        have : u * 2 ^ (7 * k) = u % 128 * 2 ^ (7 * k) + u / 128 * (2 ^ (7 * k) * 2 ^ 7) := by
          conv => lhs; rw [e3]
          rw [Nat.add_mul]
          have : (2 : Nat) ^ 7 = 128 := by decide
          rw [this, Nat.mul_comm 128, Nat.mul_assoc, Nat.mul_comm 128]
        rw [this, Nat.add_assoc]
      · have e3 : 64 - 7 * k = (64 - 7 * (k + 1)) + 7 := by omega
        rw [e3, Nat.pow_add] at hu
        have : (2 : Nat) ^ 7 = 128 := by decide
        rw [this] at hu
        omega

theorem vtk_long : ∀ (s : Bs) (k a : Nat), (∀ c ∈ s, 128 ≤ c.toNat) → vtk k a s = none
  | [], _, _, _ => rfl
  | c :: s, k, a, h => by
    rw [vtk, if_pos (h c (List.mem_cons_self ..)), vtk_long s _ _ fun x hx => h x (List.mem_cons_of_mem _ hx)]
    split <;> rfl
theorem put7_spec : ∀ (u : Nat), ∃ l c, put7 u = l ++ [c] ∧ ∀ x ∈ l, 128 ≤ x.toNat := by
  intro u
  induction u using Nat.strongRecOn with
  | _ u ih =>
    rw [put7]
    split
    · exact ⟨[], _, rfl, fun _ h => by cases h⟩
    · rename_i h
      obtain ⟨l, c, e, hl⟩ := ih (u / 128) (by omega)
      refine ⟨UInt8.ofNat (u % 128 + 128) :: l, c, by rw [e]; rfl, fun x hx => ?_⟩
      rcases List.mem_cons.1 hx with rfl | hx
      · rw [toNat_ofNat8 (by omega)]; omega
      · exact hl x hx
theorem put7_len : ∀ (u k : Nat), u < 128 ^ (k + 1) → (put7 u).length ≤ k + 1 := by
  intro u
  induction u using Nat.strongRecOn with
  | _ u ih =>
    intro k h
    rw [put7]
    split
    · simp
    · rename_i h'
      cases k with
      | zero => exact absurd h (by simpa using h')
      | succ k =>
        have := ih (u / 128) (by omega) k (by rw [Nat.pow_succ] at h; exact Nat.div_lt_of_lt_mul (by rw [Nat.mul_comm]; exact h))
        simp only [List.length_cons]; omega
theorem vput_len {n : Int} (h : I64 n) : (vput n).length ≤ 10 := put7_len _ 9 (Nat.lt_of_lt_of_le (zig_lt h) (by decide))
theorem vput_pos (n : Int) : 0 < (vput n).length := by
  obtain ⟨l, c, e, _⟩ := put7_spec (zig n); unfold vput; rw [e]; simp
theorem vtake_put {n : Int} (h : I64 n) (s : Bs) : vtake (vput n ++ s) = some (n, s) := by
  unfold vtake vput
  rw [vtk_put (zig n) 0 0 s (by omega) (by simpa using zig_lt h) (by omega)]
  simp [unzig_zig]
theorem vtake_cut {n : Int} {m : Nat} (h : m < (vput n).length) : vtake ((vput n).take m) = none := by
  unfold vtake
  obtain ⟨l, c, e, hl⟩ := put7_spec (zig n)
  unfold vput at h ⊢
  rw [e] at h ⊢
  rw [List.take_append_of_le_length (by simp at h; omega), vtk_long _ _ _ fun x hx => hl x (List.mem_of_mem_take hx)]
/-- What is taken is shorter. -/
theorem vtk_len : ∀ (s : Bs) (k a u : Nat) (r : Bs), vtk k a s = some (u, r) → r.length < s.length
  | [], _, _, _, _, h => by simp [vtk] at h
  | c :: s, k, a, u, r, h => by
    rw [vtk] at h
    split at h
    · cases h
    · split at h
      · have := vtk_len s _ _ _ _ h; simp; omega
      · split at h
        · cases h
        · cases h; simp
theorem vtake_len {s r : Bs} {n : Int} (h : vtake s = some (n, r)) : r.length < s.length := by
  unfold vtake at h
  split at h
  · rename_i u r' e; cases h; exact vtk_len _ _ _ _ _ e
  · cases h
/-- The numbers that are taken fit. -/
theorem vtk_lt : ∀ (s : Bs) (k a u : Nat) (r : Bs), k ≤ 10 → a < 2 ^ (7 * k) → vtk k a s = some (u, r) → u < 2 ^ 64
  | [], _, _, _, _, _, _, h => by simp [vtk] at h
  | c :: s, k, a, u, r, hk, ha, h => by
    rw [vtk] at h
    split at h
    · cases h
    · rename_i h10
      have hp : (c.toNat % 128) * 2 ^ (7 * k) + 2 ^ (7 * k) ≤ 2 ^ (7 * (k + 1)) := by
        rw [show 7 * (k + 1) = 7 * k + 7 by omega, Nat.pow_add]
        have : (2 : Nat) ^ 7 = 128 := by decide
        rw [this]
        have h1 : c.toNat % 128 + 1 ≤ 128 := by omega
        have := Nat.mul_le_mul_left (2 ^ (7 * k)) h1
        rw [Nat.mul_add, Nat.mul_one, Nat.mul_comm (2 ^ (7 * k)) (c.toNat % 128)] at this
        exact this
      split at h
      · exact vtk_lt s (k + 1) _ u r (by omega) (by omega) h
      · split at h
        · cases h
        · rename_i h2
          cases h
          rcases Nat.lt_or_ge k 9 with h9 | h9
          · have : (2 : Nat) ^ (7 * (k + 1)) ≤ 2 ^ 64 := Nat.pow_le_pow_right (by omega) (by omega)
            omega
          · have : k = 9 := by omega
            subst this
            have hc : c.toNat % 128 ≤ 1 := by omega
            have e1 : (2 : Nat) ^ (7 * 9) = 9223372036854775808 := by decide
            have e2 : (2 : Nat) ^ 64 = 18446744073709551616 := by decide
            rw [e1] at ha ⊢
            rw [e2]
            have : c.toNat % 128 * 9223372036854775808 ≤ 1 * 9223372036854775808 := Nat.mul_le_mul_right _ hc
            omega
theorem vtake_i64 {s r : Bs} {n : Int} (h : vtake s = some (n, r)) : I64 n := by
  unfold vtake at h
  split at h
  · rename_i u r' e
    have := vtk_lt _ _ _ _ _ (by omega) (by simp) e
    cases h
    unfold I64 unzig
    split <;> omega
  · cases h

def ptext (s : Bs) : Bs := vput s.length ++ s
def ttext (s : Bs) (most : Int) : Option (Bs × Bs) :=
  match vtake s with
  | some (n, r) => if n < 0 ∨ most < n ∨ (r.length : Int) < n then none else some (r.take n.toNat, r.drop n.toNat)
  | none => none
theorem ttext_put {s t : Bs} {most : Int} (hi : (s.length : Int) ≤ 9223372036854775807) (h : (s.length : Int) ≤ most) : ttext (ptext s ++ t) most = some (s, t) := by
  unfold ttext ptext
  rw [List.append_assoc, vtake_put ⟨by omega, hi⟩]
  simp only []
  rw [if_neg (by simp; omega)]
  simp
theorem ttext_cut {s : Bs} {most : Int} {m : Nat} (hi : (s.length : Int) ≤ 9223372036854775807) (h : m < (ptext s).length) : ttext ((ptext s).take m) most = none := by
  unfold ttext
  unfold ptext at h ⊢
  rcases Nat.lt_or_ge m (vput s.length).length with h1 | h1
  · rw [List.take_append_of_le_length (by omega), vtake_cut h1]
  · rw [List.take_append, List.take_of_length_le h1, vtake_put ⟨by omega, hi⟩]
    simp only []
    rw [if_pos]
    right; right
    simp only [List.length_append] at h
    rw [List.length_take]; omega
theorem ttext_len {s x r : Bs} {most : Int} (h : ttext s most = some (x, r)) : r.length < s.length ∧ x.length + r.length < s.length := by
  unfold ttext at h
  split at h
  · rename_i n r' e
    have := vtake_len e
    split at h
    · cases h
    · cases h; simp; omega
  · cases h

def putAll (l : List Int) : Bs := l.flatMap vput
def takeAll : Nat → Bs → Option (List Int × Bs)
  | 0, s => some ([], s)
  | n + 1, s => match vtake s with
    | some (k, r) => match takeAll n r with | some (l, r') => some (k :: l, r') | none => none
    | none => none
theorem takeAll_put : ∀ (l : List Int) (s : Bs), (∀ n ∈ l, I64 n) → takeAll l.length (putAll l ++ s) = some (l, s)
  | [], s, _ => rfl
  | n :: l, s, h => by
    have := takeAll_put l s fun x hx => h x (List.mem_cons_of_mem _ hx)
    simp only [List.length_cons, takeAll, putAll, List.flatMap_cons, List.append_assoc]
    rw [vtake_put (h n (List.mem_cons_self ..))]
    unfold putAll at this
    simp [this]
theorem takeAll_len : ∀ (n : Nat) (s r : Bs) (l : List Int), takeAll n s = some (l, r) → l.length = n ∧ r.length ≤ s.length ∧ ∀ x ∈ l, I64 x
  | 0, s, r, l, h => by simp [takeAll] at h; obtain ⟨rfl, rfl⟩ := h; simp
  | n + 1, s, r, l, h => by
    rw [takeAll] at h
    split at h
    · rename_i k r' e
      split at h
      · rename_i l' r'' e'
        cases h
        have h1 := takeAll_len n _ _ _ e'
        have h2 := vtake_len e
        refine ⟨by simp [h1.1], by omega, fun x hx => ?_⟩
        rcases List.mem_cons.1 hx with rfl | hx
        · exact vtake_i64 e
        · exact h1.2.2 x hx
      · cases h
    · cases h
theorem putAll_len {l : List Int} (h : ∀ n ∈ l, I64 n) : (putAll l).length ≤ 10 * l.length := by
  induction l with
  | nil => simp [putAll]
  | cons n l ih =>
    have h1 := ih fun x hx => h x (List.mem_cons_of_mem _ hx)
    have h2 := vput_len (h n (List.mem_cons_self ..))
    unfold putAll at h1 ⊢
    simp only [List.flatMap_cons, List.length_append, List.length_cons]; omega

/- The check sum. -/
def crcStep (r : Int) : Int := if iand .u32 r 1 == 1 then ixor .u32 (ishr .u32 r 1) 2197175160 else ishr .u32 r 1
def crcByte (r : Int) (b : UInt8) : Int := Nat.rec (ixor .u32 r (wr32 b.toNat)) (fun _ x => crcStep x) 8
def crcOf (s : Bs) : Int := inot .u32 (s.foldl crcByte (inot .u32 0))
def le4 (c : Int) : Bs := bytesOf [wr8 c, wr8 (ishr .u32 c 8), wr8 (ishr .u32 c 16), wr8 (ishr .u32 c 24)]
def sealed (s : Bs) : Bs := s ++ le4 (crcOf s)
def unsealed (s : Bs) : Option Bs := if 4 ≤ s.length ∧ sealed (s.take (s.length - 4)) = s then some (s.take (s.length - 4)) else none
@[simp] theorem le4_len (c : Int) : (le4 c).length = 4 := by simp [le4]
theorem unsealed_sealed (s : Bs) : unsealed (sealed s) = some s := by
  unfold unsealed
  have e : (sealed s).take ((sealed s).length - 4) = s := by unfold sealed; simp
  rw [e, if_pos ⟨by simp [sealed], rfl⟩]

/- Frames. -/
abbrev Ent := Int × Int × Bs × Unit
def fcheck (e : Ent) : Bool := decide (0 ≤ e.1 ∧ e.1 ≤ 1099511627776 ∧ 1 ≤ e.2.1 ∧ e.2.1 ≤ 64 ∧ e.2.2.1.length ≤ 65536)
def flay (e : Ent) : Bs := sealed (ptext (putAll [e.1, e.2.1] ++ e.2.2.1))
def fst0 : Option (Bs × Bs) → Bs
  | some (b, _) => b
  | none => []
def ftake (s : Bs) : Option (Ent × Bs) :=
  match ttext s 131072 with
  | none => none
  | some (_, rest) => if rest.length < 4 then none else
    match unsealed (s.take (s.length - rest.length + 4)) with
    | none => none
    | some t => match takeAll 2 (fst0 (ttext t t.length)) with
      | some ([x, y], text) => match fcheck (x, y, text, ()) with | true => some ((x, y, text, ()), rest.drop 4) | false => none
      | _ => none
theorem fbody_len {e : Ent} (h : fcheck e = true) : (putAll [e.1, e.2.1] ++ e.2.2.1).length ≤ 65556 := by
  simp only [fcheck, decide_eq_true_eq] at h
  have := putAll_len (l := [e.1, e.2.1]) (by intro n hn; simp at hn; rcases hn with rfl | rfl <;> constructor <;> omega)
  simp only [List.length_append]; simp at this; omega
theorem ftake_lay {e : Ent} (h : fcheck e = true) (s : Bs) : ftake (flay e ++ s) = some (e, s) := by
  have hb := fbody_len h
  have hc := h
  simp only [fcheck, decide_eq_true_eq] at h
  unfold ftake flay sealed
  generalize hB : putAll [e.1, e.2.1] ++ e.2.2.1 = B at hb
  generalize hC : le4 (crcOf (ptext B)) = C
  have hC4 : C.length = 4 := by rw [← hC]; simp
  rw [List.append_assoc, ttext_put (by omega) (by omega)]
  simp only []
  rw [if_neg (by simp; omega)]
  have e1 : (ptext B ++ (C ++ s)).take ((ptext B ++ (C ++ s)).length - (C ++ s).length + 4) = sealed (ptext B) := by
    have : (ptext B ++ (C ++ s)).length - (C ++ s).length + 4 = (ptext B ++ C).length := by simp; omega
    rw [this, ← List.append_assoc, List.take_left' rfl, sealed, hC]
  rw [e1, unsealed_sealed]
  simp only []
  have e2 : ttext (ptext B) (ptext B).length = some (B, []) := by
    have := ttext_put (s := B) (t := []) (most := (ptext B).length) (by omega) (by unfold ptext; simp; omega)
    rwa [List.append_nil] at this
  rw [e2, show fst0 (some (B, [])) = B from rfl]
  have e3 : takeAll 2 B = some ([e.1, e.2.1], e.2.2.1) := by
    rw [← hB]
    exact takeAll_put [e.1, e.2.1] _ (by intro n hn; simp at hn; rcases hn with rfl | rfl <;> constructor <;> omega)
  rw [e3]
  obtain ⟨x, y, t, u⟩ := e
  simp only at hc ⊢
  rw [hc]
  have : (C ++ s).drop 4 = s := by rw [← hC4]; exact List.drop_left' rfl
  simp [this]
theorem ftake_cut {e : Ent} {m : Nat} (h : fcheck e = true) (hm : m < (flay e).length) : ftake ((flay e).take m) = none := by
  have hb := fbody_len h
  unfold ftake
  unfold flay sealed at hm ⊢
  generalize hB : putAll [e.1, e.2.1] ++ e.2.2.1 = B at hb hm
  generalize hC : le4 (crcOf (ptext B)) = C at hm
  have hC4 : C.length = 4 := by rw [← hC]; simp
  rcases Nat.lt_or_ge m (ptext B).length with h1 | h1
  · rw [List.take_append_of_le_length (by omega), ttext_cut (by omega) h1]
  · rw [List.take_append, List.take_of_length_le h1, ttext_put (by omega) (by omega)]
    simp only []
    rw [if_pos]
    simp only [List.length_append] at hm
    rw [List.length_take]; omega
theorem ftake_nil : ftake [] = none := rfl
theorem ftake_len {s r : Bs} {e : Ent} (h : ftake s = some (e, r)) : r.length < s.length := by
  unfold ftake at h
  split at h
  · cases h
  · rename_i x rest e1
    have := ttext_len e1
    split at h
    · cases h
    · split at h
      · cases h
      · split at h
        · split at h
          · cases h; simp; omega
          · cases h
        · cases h
def rowM (s : Bs) : List (Int × Ent) :=
  match h : ftake s with
  | some (e, r) => ((s.length : Int) - r.length, e) :: rowM r
  | none => []
termination_by s.length
decreasing_by exact ftake_len h
theorem rowM_some {s r : Bs} {e : Ent} (h : ftake s = some (e, r)) : rowM s = ((s.length : Int) - r.length, e) :: rowM r := by
  rw [rowM]; split <;> rename_i h' <;> rw [h] at h' <;> cases h'; rfl
theorem rowM_none {s : Bs} (h : ftake s = none) : rowM s = [] := by
  rw [rowM]; split
  · rename_i h'; rw [h] at h'; cases h'
  · rfl
/-- A row of frames that is cut off: just those that are whole. -/
def lays (l : List Ent) : Bs := l.flatMap flay
def whole : List Ent → Nat → List Ent
  | [], _ => []
  | e :: l, m => if (flay e).length ≤ m then e :: whole l (m - (flay e).length) else []
theorem rowM_lays : ∀ (l : List Ent) (m : Nat), (∀ e ∈ l, fcheck e = true) → rowM ((lays l).take m) = (whole l m).map fun e => (((flay e).length : Int), e)
  | [], m, _ => by simp [lays, whole, rowM_none ftake_nil]
  | e :: l, m, h => by
    have he := h e (List.mem_cons_self ..)
    have ih := rowM_lays l (m - (flay e).length) fun x hx => h x (List.mem_cons_of_mem _ hx)
    simp only [lays, List.flatMap_cons, whole]
    split
    · rename_i hm
      rw [List.take_append, List.take_of_length_le hm, rowM_some (ftake_lay he _)]
      unfold lays at ih
      rw [ih]
      simp
    · rename_i hm
      rw [List.take_append_of_le_length (by omega), rowM_none (ftake_cut he (by omega))]
      rfl
end Go.W
/- Plain law: what the machine's operations on numbers are. -/
namespace Go.W
open Go

theorem wr64_eq (x : Int) : wr64 x = x % 18446744073709551616 := by unfold wr64 IntKind.wrap; rfl
theorem wr32_eq (x : Int) : wr32 x = x % 4294967296 := by unfold wr32 IntKind.wrap; rfl
theorem wr8_eq (x : Int) : wr8 x = x % 256 := by unfold wr8 IntKind.wrap; rfl
theorem w64_eq (x : Int) : w64 x = (x + 9223372036854775808) % 18446744073709551616 - 9223372036854775808 := IntKind.wrap_i64 x

theorem ofInt_nat (n : Nat) (m : Nat) : (BitVec.ofInt n (m : Int)).toNat = m % 2 ^ n := by simp

theorem iand_u8 (a b : Nat) (ha : a < 256) (hb : b < 256) : iand .u8 a b = ((a &&& b : Nat) : Int) := by
  show wr8 ((BitVec.ofInt 8 (a : Int) &&& BitVec.ofInt 8 (b : Int)).toNat : Int) = _
  rw [BitVec.toNat_and, ofInt_nat, ofInt_nat, Nat.mod_eq_of_lt (by omega), Nat.mod_eq_of_lt (by omega), wr8_eq]
  have : a &&& b ≤ a := Nat.and_le_left
  omega
theorem iand_u64 (a b : Nat) (ha : a < 2 ^ 64) (hb : b < 2 ^ 64) : iand .u64 a b = ((a &&& b : Nat) : Int) := by
  show wr64 ((BitVec.ofInt 64 (a : Int) &&& BitVec.ofInt 64 (b : Int)).toNat : Int) = _
  rw [BitVec.toNat_and, ofInt_nat, ofInt_nat, Nat.mod_eq_of_lt (by omega), Nat.mod_eq_of_lt (by omega), wr64_eq]
  have : a &&& b ≤ a := Nat.and_le_left
  omega
theorem ior_u8 (a b : Nat) (ha : a < 256) (hb : b < 256) : ior .u8 a b = ((a ||| b : Nat) : Int) := by
  show wr8 ((BitVec.ofInt 8 (a : Int) ||| BitVec.ofInt 8 (b : Int)).toNat : Int) = _
  rw [BitVec.toNat_or, ofInt_nat, ofInt_nat, Nat.mod_eq_of_lt (by omega), Nat.mod_eq_of_lt (by omega), wr8_eq]
  have : a ||| b < 2 ^ 8 := Nat.or_lt_two_pow (by omega) (by omega)
  omega
theorem ior_u64 (a b : Nat) (ha : a < 2 ^ 64) (hb : b < 2 ^ 64) : ior .u64 a b = ((a ||| b : Nat) : Int) := by
  show wr64 ((BitVec.ofInt 64 (a : Int) ||| BitVec.ofInt 64 (b : Int)).toNat : Int) = _
  rw [BitVec.toNat_or, ofInt_nat, ofInt_nat, Nat.mod_eq_of_lt (by omega), Nat.mod_eq_of_lt (by omega), wr64_eq]
  have : a ||| b < 2 ^ 64 := Nat.or_lt_two_pow ha hb
  omega
theorem ixor_u64 (a b : Nat) (ha : a < 2 ^ 64) (hb : b < 2 ^ 64) : ixor .u64 a b = ((a ^^^ b : Nat) : Int) := by
  show wr64 ((BitVec.ofInt 64 (a : Int) ^^^ BitVec.ofInt 64 (b : Int)).toNat : Int) = _
  rw [BitVec.toNat_xor, ofInt_nat, ofInt_nat, Nat.mod_eq_of_lt (by omega), Nat.mod_eq_of_lt (by omega), wr64_eq]
  have : a ^^^ b < 2 ^ 64 := Nat.xor_lt_two_pow ha hb
  omega
theorem xor_ones64 (x : BitVec 64) : (x ^^^ BitVec.allOnes 64).toNat = 18446744073709551615 - x.toNat := by
  rw [BitVec.xor_allOnes, BitVec.toNat_not]
theorem ones_ofNat : BitVec.ofInt 64 18446744073709551615 = BitVec.allOnes 64 := by decide
theorem ones_ofInt : BitVec.ofInt 64 (-1) = BitVec.allOnes 64 := by decide

theorem ishr_u64 (u : Nat) : ishr .u64 u 1 = ((u / 2 : Nat) : Int) := by
  show (u : Int).fdiv (2 ^ (min (Int.toNat 1) 64)) = _
  have : min (Int.toNat 1) 64 = 1 := by decide
  rw [this]; show (u : Int).fdiv ((2 : Nat) : Int) = _
  rw [← Int.ofNat_fdiv]
theorem ishr_u64_7 (u : Nat) : ishr .u64 u 7 = ((u / 128 : Nat) : Int) := by
  show (u : Int).fdiv (2 ^ (min (Int.toNat 7) 64)) = _
  have : min (Int.toNat 7) 64 = 7 := by decide
  rw [this]; show (u : Int).fdiv ((128 : Nat) : Int) = _
  rw [← Int.ofNat_fdiv]

theorem zig_text {n : Int} (h : I64 n) : ixor .u64 (ishl .u64 (wr64 n) 1) (wr64 (ishr .i64 n 63)) = (zig n : Int) := by
  obtain ⟨h1, h2⟩ := h
  have e1 : min (Int.toNat 1) 64 = 1 := by decide
  have e2 : min (Int.toNat 63) 64 = 63 := by decide
  have hs : ishr .i64 n 63 = n / 9223372036854775808 := by
    show n.fdiv (2 ^ (min (Int.toNat 63) 64)) = _
    rw [e2]; show n.fdiv 9223372036854775808 = _
    rw [Int.fdiv_eq_ediv_of_nonneg _ (by omega)]
  have hl : ishl .u64 (wr64 n) 1 = (2 * n) % 18446744073709551616 := by
    show wr64 (wr64 n * 2 ^ (min (Int.toNat 1) 64)) = _
    rw [e1, wr64_eq, wr64_eq]; omega
  rw [hs, hl]
  unfold zig
  by_cases hn : 0 ≤ n
  · rw [if_pos hn, show n / 9223372036854775808 = 0 by omega, show (2 * n) % 18446744073709551616 = ((2 * n).toNat : Int) by omega, show wr64 0 = ((0 : Nat) : Int) by rw [wr64_eq]; rfl, ixor_u64 _ _ (by omega) (by omega)]
    simp
  · rw [if_neg hn, show n / 9223372036854775808 = -1 by omega, show wr64 (-1) = 18446744073709551615 by rw [wr64_eq]; rfl]
    show wr64 ((BitVec.ofInt 64 ((2 * n) % 18446744073709551616) ^^^ BitVec.ofInt 64 18446744073709551615).toNat : Int) = _
    rw [ones_ofNat, xor_ones64, show (2 * n) % 18446744073709551616 = (((2 * n) % 18446744073709551616).toNat : Int) by omega, ofInt_nat, wr64_eq]
    omega

theorem unzig_text {u : Nat} (h : u < 2 ^ 64) : ixor .i64 (w64 (ishr .u64 u 1)) (w64 (0 - w64 (iand .u64 u 1))) = unzig u := by
  have ha : iand .u64 (u : Int) 1 = ((u % 2 : Nat) : Int) := by
    have := iand_u64 u 1 h (by decide)
    rw [show ((1 : Nat) : Int) = 1 from rfl] at this
    rw [this, Nat.and_one_is_mod]
  rw [ha, ishr_u64]
  unfold unzig
  have hb : w64 ((u / 2 : Nat) : Int) = ((u / 2 : Nat) : Int) := by rw [w64_eq]; omega
  rw [hb]
  by_cases hu : u % 2 = 0
  · rw [if_pos hu, hu]
    have : w64 (0 - w64 ((0 : Nat) : Int)) = ((0 : Nat) : Int) := by rw [w64_eq, w64_eq]; rfl
    rw [this]
    show w64 ((BitVec.ofInt 64 ((u / 2 : Nat) : Int) ^^^ BitVec.ofInt 64 ((0 : Nat) : Int)).toNat : Int) = _
    rw [BitVec.toNat_xor, ofInt_nat, ofInt_nat, Nat.mod_eq_of_lt (by omega), Nat.mod_eq_of_lt (by omega), Nat.xor_zero, hb]
  · rw [if_neg hu, show u % 2 = 1 by omega]
    have : w64 (0 - w64 ((1 : Nat) : Int)) = -1 := by rw [w64_eq, w64_eq]; rfl
    rw [this]
    show w64 ((BitVec.ofInt 64 ((u / 2 : Nat) : Int) ^^^ BitVec.ofInt 64 (-1)).toNat : Int) = _
    rw [ones_ofInt, xor_ones64, ofInt_nat, w64_eq]
    omega

theorem and127 (c : Nat) (h : c < 256) : iand .u8 (c : Int) 127 = ((c % 128 : Nat) : Int) := by
  have := iand_u8 c 127 h (by omega)
  rw [show ((127 : Nat) : Int) = 127 from rfl] at this
  rw [this, show (127 : Nat) = 2 ^ 7 - 1 by decide, Nat.and_two_pow_sub_one_eq_mod]

/-- A byte of a number, laid in its place. -/
theorem or_place {k u c : Nat} (hk : k ≤ 8 ∨ k = 9 ∧ c % 128 ≤ 1) (hu : u < 2 ^ (7 * k)) (hc : c < 256) :
    ior .u64 u (ishl .u64 (wr64 (iand .u8 c 127)) (w64 (7 * (k : Int)))) = ((u + c % 128 * 2 ^ (7 * k) : Nat) : Int) ∧ u + c % 128 * 2 ^ (7 * k) < 2 ^ (7 * (k + 1)) := by
  have hp : c % 128 * 2 ^ (7 * k) + 2 ^ (7 * k) ≤ 2 ^ (7 * (k + 1)) := by
    rw [show 7 * (k + 1) = 7 * k + 7 by omega, Nat.pow_add, show (2 : Nat) ^ 7 = 128 by decide]
    have := Nat.mul_le_mul_left (2 ^ (7 * k)) (show c % 128 + 1 ≤ 128 by omega)
    rw [Nat.mul_add, Nat.mul_one, Nat.mul_comm (2 ^ (7 * k)) (c % 128)] at this
    exact this
  have hlt : u + c % 128 * 2 ^ (7 * k) < 2 ^ 64 := by
    rcases hk with hk | ⟨rfl, hk⟩
    · have : (2 : Nat) ^ (7 * (k + 1)) ≤ 2 ^ 64 := Nat.pow_le_pow_right (by omega) (by omega)
      omega
    · have e1 : (2 : Nat) ^ (7 * 9) = 9223372036854775808 := by decide
      rw [e1] at hu ⊢
      have := Nat.mul_le_mul_right 9223372036854775808 hk
      omega
  refine ⟨?_, by omega⟩
  have hsh : ishl .u64 (wr64 (iand .u8 (c : Int) 127)) (w64 (7 * (k : Int))) = ((2 ^ (7 * k) * (c % 128) : Nat) : Int) := by
    have e0 : w64 (7 * (k : Int)) = ((7 * k : Nat) : Int) := by rw [w64_eq]; omega
    rw [and127 c hc, e0]
    show wr64 (wr64 ((c % 128 : Nat) : Int) * 2 ^ (min (Int.toNat ((7 * k : Nat) : Int)) 64)) = _
    have e1 : min (Int.toNat ((7 * k : Nat) : Int)) 64 = 7 * k := by simp; omega
    rw [e1, wr64_eq ((c % 128 : Nat) : Int), show ((c % 128 : Nat) : Int) % 18446744073709551616 = ((c % 128 : Nat) : Int) by omega, wr64_eq]
    have e2 : (((c % 128 : Nat) : Int)) * 2 ^ (7 * k) = ((2 ^ (7 * k) * (c % 128) : Nat) : Int) := by
      rw [Nat.mul_comm (2 ^ (7 * k)), Int.natCast_mul, Int.natCast_pow]; rfl
    rw [e2]
    have : 2 ^ (7 * k) * (c % 128) < 2 ^ 64 := by rw [Nat.mul_comm]; omega
    omega
  rw [hsh, ior_u64 _ _ (by omega) (by rw [Nat.mul_comm]; omega), Nat.or_comm, ← Nat.two_pow_add_eq_or_of_lt hu, Nat.add_comm, Nat.mul_comm]

theorem or128 (u : Nat) : ior .u8 (wr8 (u : Int)) 128 = ((u % 128 + 128 : Nat) : Int) := by
  have h0 : wr8 (u : Int) = ((u % 256 : Nat) : Int) := by rw [wr8_eq]; omega
  have := ior_u8 (u % 256) 128 (by omega) (by omega)
  rw [show ((128 : Nat) : Int) = 128 from rfl] at this
  rw [h0, this]
  have e : ∀ x : Fin 256, x.val ||| 128 = x.val % 128 + 128 := by
    set_option maxRecDepth 10000 in decide
  have := e ⟨u % 256, by omega⟩
  simp only at this
  rw [this]; congr 1; omega
end Go.W
namespace Go.W
open Go
theorem rdS.head {s : Sl} {k : Kd} {xs : List (KT k)} {m : Nat} {w : World} (h : rdS s k xs w) (h2 : m ≤ xs.length) : rdS ⟨s.a, m, s.cap⟩ k (xs.take m) w := by
  obtain ⟨g1, g2, g3⟩ := h
  refine ⟨by simp; omega, by simp; omega, ?_⟩
  rcases g3 with g3 | ⟨b, pre, post, e, fr, ha, hb⟩
  · left; simp; omega
  · right
    refine ⟨b, pre, rows k (xs.drop m) ++ post, e, fr, ha, ?_⟩
    rw [hb]
    have e2 : rows k xs = rows k (xs.take m) ++ rows k (xs.drop m) := by rw [← rows_append, List.take_append_drop]
    rw [e2]; simp
theorem set_tail {α : Type} (l rest : List α) (y : α) (h : 0 < rest.length) : (l ++ rest).set l.length y = (l ++ [y]) ++ rest.tail := by
  cases rest with
  | nil => simp at h
  | cons x rest => simp
end Go.W

namespace Go.W
open Go
/-- An assertion in a list, and the rest. -/
class HasI (A : Assn) (Γ : List Assn) (Δ : outParam (List Assn)) : Prop where
  sat : ∀ {π h}, Sat Γ π h ↔ Sat (A :: Δ) π h
instance (priority := high) HasI.here {A : Assn} {Γ : List Assn} : HasI A (A :: Γ) Γ := ⟨Iff.rfl⟩
instance (priority := low) HasI.there {A B : Assn} {Γ Δ : List Assn} [h : HasI A Γ Δ] : HasI A (B :: Γ) (B :: Δ) := by
  have : Has (fun a : Assn => a) A Γ Δ := ⟨h.sat⟩
  exact ⟨(Has.there (f := fun a : Assn => a) (x := A) (B := B)).sat⟩
theorem SH.takeI {o : Fix} {Γ Δ : List Assn} {w : World} (A : Assn) [H : HasI A Γ Δ] (h : SH o Γ w) : SH o (A :: Δ) w := h.imp fun _ _ => H.sat.1
/-- A list of assertions out of another one: each is found there. -/
class SubA (Γ' Γ : List Assn) : Prop where
  sat : ∀ {π h}, Sat Γ π h → ∃ h' r : Frag, h'.disj r ∧ h = h'.add r ∧ Sat Γ' π h'
instance (priority := high) SubA.same {Γ : List Assn} : SubA Γ Γ := ⟨fun {_ h} hs => ⟨h, Frag.emp, Frag.disj_emp h, (Frag.add_emp h).symm, hs⟩⟩
instance (priority := low) SubA.none {Γ : List Assn} : SubA [] Γ := ⟨fun {_ h} _ => ⟨Frag.emp, h, Frag.emp_disj h, (Frag.emp_add h).symm, rfl⟩⟩
instance SubA.cons {A : Assn} {Γ' Γ Δ : List Assn} [H : HasI A Γ Δ] [S : SubA Γ' Δ] : SubA (A :: Γ') Γ := by
  refine ⟨fun hs => ?_⟩
  obtain ⟨h1, h2, hd, rfl, ha, hs⟩ := H.sat.1 hs
  obtain ⟨h3, r, hd', rfl, hs'⟩ := S.sat hs
  obtain ⟨d1, d2⟩ := Frag.disj_add.1 hd
  exact ⟨h1.add h3, r, (Frag.disj_add.2 ⟨d2.symm, hd'.symm⟩).symm, (Frag.add_assoc ..).symm, h1, h3, d1, rfl, ha, hs'⟩
instance (priority := low) SubA.skip {B : Assn} {Γ' Γ : List Assn} [S : SubA Γ' Γ] : SubA Γ' (B :: Γ) := by
  refine ⟨fun hs => ?_⟩
  obtain ⟨h1, h2, hd, rfl, ha, hs⟩ := hs
  obtain ⟨h3, r, hd', rfl, hs'⟩ := S.sat hs
  obtain ⟨d1, d2⟩ := Frag.disj_add.1 hd
  refine ⟨h3, h1.add r, Frag.disj_add.2 ⟨d1.symm, hd'⟩, ?_, hs'⟩
  rw [← Frag.add_assoc, Frag.add_comm d1, Frag.add_assoc]
theorem SH.to {o : Fix} {Γ Γ' : List Assn} {w : World} (h : SH o Γ w) [S : SubA Γ' Γ] : SH o Γ' w := by
  obtain ⟨π, h, h1, h2, h3, h4, h5, hs⟩ := h
  obtain ⟨h', r, hd, rfl, hs'⟩ := S.sat hs
  exact ⟨π, h', (Frag.disj_add.1 h1).1, h2, fun b x hb => h3 b x (Frag.le_add _ _ b x hb), h4, h5, hs'⟩
section
variable {o : Fix} {Γ : List Assn} {w : World} {A B C D : Assn}
theorem SH.star2 : SH o (starA [A, B] :: Γ) w ↔ SH o (A :: B :: Γ) w := SH.star
theorem SH.star3 : SH o (starA [A, B, C] :: Γ) w ↔ SH o (A :: B :: C :: Γ) w := SH.star
theorem SH.star4 : SH o (starA [A, B, C, D] :: Γ) w ↔ SH o (A :: B :: C :: D :: Γ) w := SH.star
end
end Go.W
/- Plain law: batches as bytes. -/
namespace Go.W
open Go

abbrev Rec := Int × Int × Bs × Unit
def inB (n : Int) : Bool := decide (0 ≤ n ∧ n ≤ 1099511627776)
def mayRec (r : Rec) : Bool := decide (0 ≤ r.1 ∧ r.1 ≤ 1048576) && inB r.2.1 && decide (r.2.2.1.length ≤ 512)
def bkind (k p e q : Int) (n : Nat) : Bool := decide ((k = 1 ∧ 0 < n ∧ (0 < p ∧ 0 < e ∨ p = 0 ∧ e = 0 ∧ q = 0)) ∨ (k = 2 ∧ 0 < n ∧ 0 < p ∧ 0 < e) ∨ ((k = 3 ∨ k = 4) ∧ n = 0 ∧ (0 < p ∧ 0 < e) ∧ q = 0))
def bmay (k p e q : Int) (rs : List Rec) : Bool := decide (0 ≤ p ∧ p ≤ 8) && inB e && inB q && decide (rs.length ≤ 64) && rs.all mayRec && bkind k p e q rs.length
theorem inB_i64 {n : Int} (h : inB n = true) : I64 n := by simp [inB] at h; constructor <;> omega
theorem mayRec_spec {r : Rec} (h : mayRec r = true) : (0 ≤ r.1 ∧ r.1 ≤ 1048576) ∧ (0 ≤ r.2.1 ∧ r.2.1 ≤ 1099511627776) ∧ r.2.2.1.length ≤ 512 := by
  simp [mayRec, inB, and_assoc] at h; omega
theorem bmay_spec {k p e q : Int} {rs : List Rec} (h : bmay k p e q rs = true) : (0 ≤ p ∧ p ≤ 8) ∧ (0 ≤ e ∧ e ≤ 1099511627776) ∧ (0 ≤ q ∧ q ≤ 1099511627776) ∧ rs.length ≤ 64 ∧ (∀ r ∈ rs, mayRec r = true) ∧ bkind k p e q rs.length = true := by
  simp only [bmay, inB, Bool.and_eq_true, decide_eq_true_eq, List.all_eq_true] at h
  obtain ⟨⟨⟨⟨⟨h1, h2⟩, h3⟩, h4⟩, h5⟩, h6⟩ := h
  exact ⟨h1, h2, h3, h4, h5, h6⟩
theorem bkind_k {k p e q : Int} {n : Nat} (h : bkind k p e q n = true) : 1 ≤ k ∧ k ≤ 4 := by simp [bkind] at h; omega

def encRec (r : Rec) : Bs := putAll [r.1, r.2.1] ++ ptext r.2.2.1
def encRecs (rs : List Rec) : Bs := rs.flatMap encRec
def encB (k p e q : Int) (rs : List Rec) : Bs := putAll [k, p, e, q, rs.length] ++ encRecs rs
def takeRec (s : Bs) : Option (Rec × Bs) :=
  match takeAll 2 s with
  | some ([a, b], r) => match ttext r 512 with
    | some (t, r') => match mayRec (a, b, t, ()) with | true => some ((a, b, t, ()), r') | false => none
    | none => none
  | _ => none
def takeRecs : Nat → Bs → Option (List Rec × Bs)
  | 0, s => some ([], s)
  | n + 1, s => match takeRec s with
    | some (x, r) => match takeRecs n r with | some (l, r') => some (x :: l, r') | none => none
    | none => none
abbrev Bt := Int × Int × Int × Int × List Rec
def decB (s : Bs) : Option Bt :=
  match takeAll 5 s with
  | some ([k, p, e, q, n], r) => if n < 0 ∨ 64 < n then none else match takeRecs n.toNat r with
    | some (rs, []) => match bmay k p e q rs with | true => some (k, p, e, q, rs) | false => none
    | _ => none
  | _ => none
theorem takeRec_enc {r : Rec} (h : mayRec r = true) (s : Bs) : takeRec (encRec r ++ s) = some (r, s) := by
  have hs := mayRec_spec h
  unfold takeRec encRec
  rw [List.append_assoc, show takeAll 2 (putAll [r.1, r.2.1] ++ (ptext r.2.2.1 ++ s)) = some ([r.1, r.2.1], ptext r.2.2.1 ++ s) from
    takeAll_put [r.1, r.2.1] _ (by intro n hn; simp at hn; rcases hn with rfl | rfl <;> constructor <;> omega)]
  simp only []
  rw [ttext_put (by omega) (by omega)]
  obtain ⟨a, b, t, _⟩ := r
  simp only
  rw [h]
theorem takeRecs_enc : ∀ (rs : List Rec) (s : Bs), (∀ r ∈ rs, mayRec r = true) → takeRecs rs.length (encRecs rs ++ s) = some (rs, s)
  | [], s, _ => rfl
  | r :: rs, s, h => by
    have := takeRecs_enc rs s fun x hx => h x (List.mem_cons_of_mem _ hx)
    unfold encRecs at this
    simp only [List.length_cons, takeRecs, encRecs, List.flatMap_cons, List.append_assoc]
    rw [takeRec_enc (h r (List.mem_cons_self ..))]
    simp only []
    rw [this]
theorem decB_enc {k p e q : Int} {rs : List Rec} (h : bmay k p e q rs = true) : decB (encB k p e q rs) = some (k, p, e, q, rs) := by
  obtain ⟨h1, h2, h3, h4, h5, h6⟩ := bmay_spec h
  have hk := bkind_k h6
  unfold decB encB
  rw [show takeAll 5 (putAll [k, p, e, q, rs.length] ++ encRecs rs) = some ([k, p, e, q, (rs.length : Int)], encRecs rs) from
    takeAll_put [k, p, e, q, (rs.length : Int)] _ (by intro n hn; simp at hn; rcases hn with rfl | rfl | rfl | rfl | rfl <;> constructor <;> omega)]
  simp only []
  have := takeRecs_enc rs [] h5
  rw [List.append_nil] at this
  rw [if_neg (by omega), Int.toNat_natCast, this]
  simp only [h]
theorem encRec_len {r : Rec} (h : mayRec r = true) : (encRec r).length ≤ 542 := by
  obtain ⟨h1, h2, h3⟩ := mayRec_spec h
  have g1 := putAll_len (l := [r.1, r.2.1]) (by intro n hn; simp at hn; rcases hn with rfl | rfl <;> constructor <;> omega)
  have g2 := vput_len (n := r.2.2.1.length) ⟨by omega, by omega⟩
  unfold encRec ptext; simp at g1 ⊢; omega
theorem encRecs_len : ∀ {rs : List Rec}, (∀ r ∈ rs, mayRec r = true) → (encRecs rs).length ≤ 542 * rs.length
  | [], _ => by simp [encRecs]
  | r :: rs, h => by
    have g1 := encRec_len (h r (List.mem_cons_self ..))
    have g2 := encRecs_len fun x hx => h x (List.mem_cons_of_mem _ hx)
    unfold encRecs at g2 ⊢
    simp only [List.flatMap_cons, List.length_append, List.length_cons]; omega
theorem encB_len {k p e q : Int} {rs : List Rec} (h : bmay k p e q rs = true) : (encB k p e q rs).length ≤ 34738 := by
  obtain ⟨h1, h2, h3, h4, h5, h6⟩ := bmay_spec h
  have hk := bkind_k h6
  have g1 := encRecs_len h5
  have g2 := putAll_len (l := [k, p, e, q, (rs.length : Int)]) (by intro n hn; simp at hn; rcases hn with rfl | rfl | rfl | rfl | rfl <;> constructor <;> omega)
  unfold encB; simp at g2 ⊢; omega
theorem takeRec_len {s r : Bs} {x : Rec} (h : takeRec s = some (x, r)) : r.length < s.length ∧ mayRec x = true := by
  unfold takeRec at h
  split at h
  · rename_i a b r1 e1
    have h1 := (takeAll_len _ _ _ _ e1).2.1
    split at h
    · rename_i t r2 e2
      have h2 := ttext_len e2
      split at h
      · rename_i e3; cases h; exact ⟨by omega, e3⟩
      · cases h
    · cases h
  · cases h
end Go.W
/- Plain law: packed texts. -/
namespace Go.W
open Go

def lit (s : Bs) : Bs := match s with | [] => [] | _ => vput (2 * (s.length : Int)) ++ s
def ctok (n back : Int) : Bs := putAll [2 * (n - 4) + 1, back]
def copyB : Nat → Nat → Bs → Bs
  | 0, _, b => b
  | k + 1, back, b => copyB k back (b ++ [b.getD (b.length - back) 0])
theorem drop_lt {n : Nat} {s r : Bs} (h : r.length < s.length) : (r.drop n).length < s.length := by simp; omega
/-- What Unpack makes of a text. -/
def unpM (most : Nat) (s b : Bs) : Option Bs :=
  match hs : s with
  | [] => some b
  | _ :: _ => match h1 : vtake s with
    | none => none
    | some (n, r) => if n < 1 ∨ (most : Int) - b.length < n / 2 then none else
      if n % 2 = 0 then if (r.length : Int) < n / 2 then none else unpM most (r.drop (n / 2).toNat) (b ++ r.take (n / 2).toNat)
      else match h2 : vtake r with
        | none => none
        | some (back, r2) => if back < 1 ∨ 4096 < back ∨ (b.length : Int) < back ∨ (most : Int) - b.length - 4 < n / 2 then none else unpM most r2 (copyB (n / 2 + 4).toNat back.toNat b)
termination_by s.length
decreasing_by
  · have := vtake_len h1; subst hs; exact drop_lt this
  · have := vtake_len h1; have := vtake_len h2; subst hs; omega
theorem unpM_nil (most : Nat) (b : Bs) : unpM most [] b = some b := by rw [unpM]
theorem unpM_cons {most : Nat} {s b : Bs} (hs : s ≠ []) : unpM most s b = match vtake s with
    | none => none
    | some (n, r) => if n < 1 ∨ (most : Int) - b.length < n / 2 then none else
      if n % 2 = 0 then if (r.length : Int) < n / 2 then none else unpM most (r.drop (n / 2).toNat) (b ++ r.take (n / 2).toNat)
      else match vtake r with
        | none => none
        | some (back, r2) => if back < 1 ∨ 4096 < back ∨ (b.length : Int) < back ∨ (most : Int) - b.length - 4 < n / 2 then none else unpM most r2 (copyB (n / 2 + 4).toNat back.toNat b) := by
  cases s with
  | nil => exact absurd rfl hs
  | cons x s =>
    rw [unpM]
    split
    · rename_i h; rw [h]
    · rename_i n r h
      rw [h]
      simp only []
      split
      · rfl
      · split
        · rfl
        · split
          · rename_i h2; rw [h2]
          · rename_i back r2 h2; rw [h2]

theorem unpM_lit {most : Nat} {s t b : Bs} (h : b.length + s.length ≤ most) (hm : most ≤ 1099511627776) : unpM most (lit s ++ t) b = unpM most t (b ++ s) := by
  cases s with
  | nil => simp [lit]
  | cons c s =>
    generalize hS : c :: s = S at h
    have hl : 0 < S.length := by rw [← hS]; simp
    have e : lit S = vput (2 * (S.length : Int)) ++ S := by rw [← hS]; rfl
    have hne : lit S ++ t ≠ [] := by
      rw [e]; intro h0
      have h0 := congrArg List.length h0
      rw [List.length_append, List.length_append, List.length_nil] at h0; omega
    rw [unpM_cons hne, e, List.append_assoc, vtake_put ⟨by omega, by omega⟩]
    simp only []
    rw [if_neg (by omega), if_pos (by omega), if_neg (by simp; omega)]
    have e2 : (2 * (S.length : Int) / 2).toNat = S.length := by omega
    rw [e2, List.drop_left' rfl, List.take_left' rfl]
theorem unpM_copy {most n back : Nat} {t b : Bs} (hn : 4 ≤ n) (h1 : 1 ≤ back) (h2 : back ≤ 4096) (h3 : back ≤ b.length) (h : b.length + n ≤ most) (hm : most ≤ 1099511627776) : unpM most (ctok n back ++ t) b = unpM most t (copyB n back b) := by
  have e : ctok n back ++ t = vput (2 * ((n : Int) - 4) + 1) ++ (vput (back : Int) ++ t) := by simp [ctok, putAll]
  have hne : ctok n back ++ t ≠ [] := by
    rw [e]; intro h0
    have h0 := congrArg List.length h0
    have hp := vput_pos (2 * ((n : Int) - 4) + 1)
    rw [List.length_append, List.length_nil] at h0; omega
  rw [unpM_cons hne, e, vtake_put ⟨by omega, by omega⟩]
  simp only []
  rw [if_neg (by omega), if_neg (by omega), vtake_put ⟨by omega, by omega⟩]
  simp only []
  rw [if_neg (by omega)]
  congr 2
  · omega
theorem copyB_eq {s : Bs} {back : Nat} : ∀ (n i : Nat), 1 ≤ back → back ≤ i → i + n ≤ s.length → (∀ j, j < n → s[i + j]? = s[i + j - back]?) → copyB n back (s.take i) = s.take (i + n)
  | 0, i, _, _, _, _ => by simp [copyB]
  | n + 1, i, h1, h2, h3, h4 => by
    rw [copyB]
    have hl : (s.take i).length = i := by simp; omega
    have h0 := h4 0 (by omega)
    simp only [Nat.add_zero] at h0
    have e : (s.take i).getD ((s.take i).length - back) 0 = s[i]'(by omega) := by
      rw [hl, List.getD_eq_getElem?_getD, List.getElem?_take, if_pos (by omega), ← h0, List.getElem?_eq_getElem (by omega)]; rfl
    have e2 : s.take i ++ [(s.take i).getD ((s.take i).length - back) 0] = s.take (i + 1) := by
      rw [e, List.take_add_one, List.getElem?_eq_getElem (by omega)]; rfl
    rw [e2, copyB_eq n (i + 1) h1 (by omega) (by omega) (fun j hj => by have := h4 (j + 1) (by omega); rw [show i + 1 + j = i + (j + 1) by omega]; exact this)]
    congr 1; omega

/-- A text out decodes to what stands ahead of a place. -/
def Dec (s out : Bs) (i : Nat) : Prop := (∀ t, unpM 1048576 (out ++ t) [] = unpM 1048576 t (s.take i)) ∧ out.length ≤ 11 * i
theorem Dec.zero (s : Bs) : Dec s [] 0 := ⟨fun t => by simp, by simp⟩
theorem lit_len (s : Bs) (h : s.length ≤ 1099511627776) : (lit s).length ≤ 11 * s.length := by
  cases s with
  | nil => simp [lit]
  | cons c s =>
    have := vput_len (n := 2 * ((c :: s).length : Int)) ⟨by omega, by omega⟩
    simp only [lit, List.length_append, List.length_cons] at this ⊢; omega
theorem Dec.lit {s out : Bs} {i j : Nat} (h : Dec s out i) (hij : i ≤ j) (hj : j ≤ s.length) (hs : s.length ≤ 1048576) : Dec s (out ++ W.lit ((s.drop i).take (j - i))) j := by
  obtain ⟨h1, h2⟩ := h
  refine ⟨fun t => ?_, ?_⟩
  · rw [List.append_assoc, h1, unpM_lit (by simp; omega) (by omega)]
    congr 1
    have : s.take j = (s.take j).take i ++ (s.take j).drop i := by simp
    rw [this, List.take_take, Nat.min_eq_left hij, List.drop_take]
  · have := lit_len ((s.drop i).take (j - i)) (by simp; omega)
    rw [List.length_append]; simp at this; omega
theorem ctok_len {n back : Int} (h : 4 ≤ n ∧ n ≤ 1099511627776) (h' : 1 ≤ back ∧ back ≤ 1099511627776) : (ctok n back).length ≤ 20 := by
  have := putAll_len (l := [2 * (n - 4) + 1, back]) (by intro x hx; simp at hx; rcases hx with rfl | rfl <;> constructor <;> omega)
  unfold ctok; simp at this ⊢; omega
theorem Dec.copy {s out : Bs} {i n back : Nat} (h : Dec s out i) (hn : 4 ≤ n) (h1 : 1 ≤ back) (h2 : back ≤ 4096) (h3 : back ≤ i) (h4 : i + n ≤ s.length) (hs : s.length ≤ 1048576) (h5 : ∀ j, j < n → s[i + j]? = s[i + j - back]?) :
    Dec s (out ++ ctok n back) (i + n) := by
  obtain ⟨g1, g2⟩ := h
  refine ⟨fun t => ?_, ?_⟩
  · rw [List.append_assoc, g1, unpM_copy hn h1 h2 (by simp; omega) (by simp; omega) (by omega), copyB_eq n i h1 h3 h4 h5]
  · have := ctok_len (n := n) (back := back) (by omega) (by omega)
    rw [List.length_append]; omega
theorem Dec.all {s out : Bs} (h : Dec s out s.length) : unpM 1048576 out [] = some s := by
  have := h.1 []
  rwa [List.append_nil, unpM_nil, List.take_length] at this

/-- A border of what stands ahead of a place. -/
def isB (s : Bs) (k i : Nat) : Prop := k ≤ i ∧ ∀ j, j < k → s[j]? = s[i - k + j]?
theorem isB.zero (s : Bs) (i : Nat) : isB s 0 i := ⟨by omega, fun j hj => by omega⟩
theorem isB.trans {s : Bs} {a b i : Nat} (h1 : isB s a b) (h2 : isB s b i) : isB s a i := by
  refine ⟨Nat.le_trans h1.1 h2.1, fun j hj => ?_⟩
  have e1 := h1.2 j hj
  have e2 := h2.2 (b - a + j) (by have := h1.1; omega)
  rw [e1, e2]
  congr 1
  have := h1.1; have := h2.1; omega
theorem isB.succ {s : Bs} {k i : Nat} (h : isB s k i) (hk : s[k]? = s[i]?) : isB s (k + 1) (i + 1) := by
  refine ⟨by have := h.1; omega, fun j hj => ?_⟩
  have h1 := h.1
  have e : i + 1 - (k + 1) + j = i - k + j := by omega
  rw [e]
  rcases Nat.lt_or_ge j k with hj' | hj'
  · exact h.2 j hj'
  · have : j = k := by omega
    subst this
    rw [show i - j + j = i by omega]; exact hk
theorem isB.period {s : Bs} {k : Nat} (h : isB s k s.length) (hk : k < s.length) : ∀ j, s.length - k + j < s.length → s[s.length - k + j]? = s[s.length - k + j - (s.length - k)]? := by
  intro j hj
  have := h.2 j (by omega)
  rw [this.symm]; congr 1; omega
end Go.W
namespace Go.W
open Go
theorem u8_beq (a b : UInt8) : (((a.toNat : Nat) : Int) == ((b.toNat : Nat) : Int)) = decide (a = b) := by
  rw [Bool.eq_iff_iff]
  simp only [beq_iff_eq, decide_eq_true_eq]
  constructor
  · intro h; exact UInt8.toNat_inj.1 (by omega)
  · rintro rfl; rfl
theorem u8_bne (a b : UInt8) : (((a.toNat : Nat) : Int) != ((b.toNat : Nat) : Int)) = !decide (a = b) := by
  rw [← u8_beq]; rfl
theorem gete {α : Type} {s : List α} {k : Nat} (h : k < s.length) : s[((k : Nat) : Int).toNat]? = some s[k] := by
  rw [Int.toNat_natCast]; exact List.getElem?_eq_getElem h
end Go.W
/- Plain law: a torn row of packed batches. -/
namespace Go.W
open Go

theorem RdS.cut {s : Sl} {k : Kd} {xs : List (KT k)} {Γ : List Assn} {l m : Nat} (hr : RdS s k xs Γ) (h1 : l ≤ m) (h2 : m ≤ xs.length) : RdS (W.cut s k l m) k ((xs.drop l).take (m - l)) Γ :=
  ⟨fun h => (show rdS s k xs _ from hr.rd h).cut h1 h2⟩
/-- An item: a frame's entry, and the text that was packed in it. -/
abbrev Itm := Ent × Bs
def sumN (l : List Itm) : Int := match l with | [] => 0 | x :: l => x.1.2.1 + sumN l
theorem sumN_append : ∀ (l m : List Itm), sumN (l ++ m) = sumN l + sumN m
  | [], m => by simp [sumN]
  | x :: l, m => by simp only [List.cons_append, sumN, sumN_append l m]; omega
structure ItmOk (x : Itm) : Prop where
  chk : fcheck x.1 = true
  unp : unpM 1048576 x.1.2.2.1 [] = some x.2
  enc : ∃ k p e q rs, bmay k p e q rs = true ∧ x.2 = encB k p e q rs
abbrev entsOf (l : List Itm) : List Ent := l.map (·.1)
theorem flay_len {e : Ent} (h : fcheck e = true) : 0 < (flay e).length ∧ (flay e).length ≤ 65600 := by
  have hb := fbody_len h
  have := vput_len (n := (putAll [e.1, e.2.1] ++ e.2.2.1).length) ⟨by omega, by omega⟩
  unfold flay sealed ptext
  simp only [List.length_append, le4_len] at hb this ⊢; omega
theorem lays_len : ∀ {l : List Ent}, (∀ e ∈ l, fcheck e = true) → (lays l).length ≤ 65600 * l.length
  | [], _ => by simp [lays]
  | e :: l, h => by
    have h1 := (flay_len (h e (List.mem_cons_self ..))).2
    have h2 := lays_len fun x hx => h x (List.mem_cons_of_mem _ hx)
    unfold lays at h2 ⊢
    simp only [List.flatMap_cons, List.length_append, List.length_cons]; omega
theorem lays_append (l m : List Ent) : lays (l ++ m) = lays l ++ lays m := by simp [lays]
theorem whole_take : ∀ (l : List Ent) (k m : Nat), k ≤ l.length → (lays (l.take k)).length ≤ m → (k = l.length ∨ m < (lays (l.take (k + 1))).length) → whole l m = l.take k
  | [], k, m, h1, _, _ => by simp [whole]
  | e :: l, 0, m, _, _, h3 => by
    rw [whole, if_neg]
    · rfl
    · rcases h3 with h3 | h3
      · simp at h3
      · simp [lays] at h3; omega
  | e :: l, k + 1, m, h1, h2, h3 => by
    simp only [List.take_succ_cons, lays, List.flatMap_cons, List.length_append] at h2 h3
    rw [whole, if_pos (by omega), List.take_succ_cons]
    congr 1
    refine whole_take l k _ (by simpa using h1) ?_ ?_
    · unfold lays; omega
    · rcases h3 with h3 | h3
      · left; simpa using h3
      · right; unfold lays; omega
theorem whole_map (l : List Ent) : ∀ (k : Nat), ((l.take k).map fun e => (((flay e).length : Int), e)).map (·.2) = l.take k := by
  intro k; simp [List.map_map, Function.comp_def]
theorem foldl_add (l : List Int) : ∀ c : Int, l.foldl (· + ·) c = c + l.foldl (· + ·) 0 := by
  induction l with
  | nil => intro c; simp
  | cons x l ih => intro c; simp only [List.foldl_cons]; rw [ih, ih (0 + x)]; omega
theorem lays_sum : ∀ (l : List Ent), (l.map fun e => (((flay e).length : Nat) : Int)).foldl (· + ·) 0 = ((lays l).length : Int)
  | [] => by simp [lays]
  | e :: l => by
    have := lays_sum l
    simp only [List.map_cons, List.foldl_cons, lays, List.flatMap_cons, List.length_append]
    rw [foldl_add, this]; unfold lays; simp
end Go.W
/- Maps. -/
namespace Go.W
open Go

/-- A map, whose entries are known. -/
def mpA (m : Nat) (kk kv : Kd) (es : List (KT kk × KT kv)) : Assn :=
  ⟨fun _ h => ∃ (ents : Array MapEntry) (clock : Nat), ents.toList.map (fun e => (e.key, e.val)) = es.map (fun q => (KV kk q.1, KV kv q.2)) ∧ h = Frag.one m (.map ents clock), fun _ h => h⟩
/-- A type of keys. -/
class TyKey (P : Program) (t : TypeId) (k : outParam Kd) : Prop where
  eqv : ∀ (x y : KT k) (w : World), ∃ b, (Op.equal t (KV k x) (KV k y)).run P w = .ok b w ∧ (b = true ↔ x = y)
  chk : ∀ (e : Bool) (x : KT k) (w : World), (Instr.checkKey e 10000 t (KV k x)).run P w = .ok () w
  bits : ∀ x : KT k, Instr.sameBits 10000 (KV k x) (KV k x) = true
  now : ∃ d, P.underlying t = some d ∧ ((∀ x y : KT k, ∃ b, Instr.sameNow d (KV k x) (KV k y) = some b ∧ (b = true ↔ x = y)) ∨ ∀ x y : KT k, Instr.sameNow d (KV k x) (KV k y) = none)

/-- What is found of a key. -/
def Fnd {α β : Type} (es : List (α × β)) (x : α) : Option (Nat × β) → Prop
  | some (i, v) => es[i]? = some (x, v) ∧ ∀ j, j < i → ∀ q, es[j]? = some q → q.1 ≠ x
  | none => ∀ q ∈ es, q.1 ≠ x
theorem Fnd.cons {α β : Type} {es : List (α × β)} {x : α} {q : α × β} (hq : q.1 ≠ x) : ∀ {r : Option (Nat × β)}, Fnd es x r → Fnd (q :: es) x (r.map fun p => (p.1 + 1, p.2))
  | some (i, v), ⟨h1, h2⟩ => ⟨by simpa using h1, fun j hj p hp => by
      cases j with
      | zero => simp at hp; subst hp; exact hq
      | succ j => exact h2 j (by omega) p (by simpa using hp)⟩
  | none, h => fun p hp => by
      rcases List.mem_cons.1 hp with rfl | hp
      · exact hq
      · exact h p hp

section
variable {P : Program} {t : TypeId} {k kv : Kd}
theorem findAsking_run [hk : TyKey P t k] (x : KT k) (w : World) : ∀ (ents : List MapEntry) (es : List (KT k × KT kv)) (n : Nat), ents.map (fun e => (e.key, e.val)) = es.map (fun q => (KV k q.1, KV kv q.2)) →
    ∃ r, (Instr.findAsking t (KV k x) ents n).run P w = .ok (r.map fun p => (n + p.1, KV kv p.2)) w ∧ Fnd es x r
  | [], es, n, h => by
    cases es with
    | nil => exact ⟨none, by simp [Instr.findAsking], fun q hq => by cases hq⟩
    | cons q es => simp at h
  | e :: ents, es, n, h => by
    cases es with
    | nil => simp at h
    | cons q es =>
      simp only [List.map_cons, List.cons.injEq, Prod.mk.injEq] at h
      obtain ⟨⟨h1, h2⟩, h3⟩ := h
      obtain ⟨b, hb, hbx⟩ := hk.eqv x q.1 w
      cases b with
      | true =>
        have hx := hbx.1 rfl
        refine ⟨some (0, q.2), ?_, ?_⟩
        · simp [Instr.findAsking, h1, h2, hb]
        · refine ⟨by simp [hx], fun j hj => by omega⟩
      | false =>
        have hx : q.1 ≠ x := fun e => by have := hbx.2 e.symm; cases this
        obtain ⟨r, hr, hf⟩ := findAsking_run x w ents es (n + 1) h3
        refine ⟨r.map fun p => (p.1 + 1, p.2), ?_, hf.cons hx⟩
        simp [Instr.findAsking, h1, hb, hr]
        cases r with
        | none => rfl
        | some p => simp; omega
theorem findNow_run [hk : TyKey P t k] {d : TypeDesc} (hn : ∀ x y : KT k, ∃ b, Instr.sameNow d (KV k x) (KV k y) = some b ∧ (b = true ↔ x = y)) (x : KT k) : ∀ (ents : List MapEntry) (es : List (KT k × KT kv)) (n : Nat), ents.map (fun e => (e.key, e.val)) = es.map (fun q => (KV k q.1, KV kv q.2)) →
    ∃ r, Instr.findNow d (KV k x) ents n = some (r.map fun p => (n + p.1, KV kv p.2)) ∧ Fnd es x r
  | [], es, n, h => by
    cases es with
    | nil => exact ⟨none, by simp [Instr.findNow], fun q hq => by cases hq⟩
    | cons q es => simp at h
  | e :: ents, es, n, h => by
    cases es with
    | nil => simp at h
    | cons q es =>
      simp only [List.map_cons, List.cons.injEq, Prod.mk.injEq] at h
      obtain ⟨⟨h1, h2⟩, h3⟩ := h
      obtain ⟨b, hb, hbx⟩ := hn x q.1
      cases b with
      | true =>
        have hx := hbx.1 rfl
        refine ⟨some (0, q.2), ?_, ?_⟩
        · simp [Instr.findNow, h1, h2, hb]
        · refine ⟨by simp [hx], fun j hj => by omega⟩
      | false =>
        have hx : q.1 ≠ x := fun e => by have := hbx.2 e.symm; cases this
        obtain ⟨r, hr, hf⟩ := findNow_run hn x ents es (n + 1) h3
        refine ⟨r.map fun p => (p.1 + 1, p.2), ?_, hf.cons hx⟩
        simp [Instr.findNow, h1, hb, hr]
        cases r with
        | none => rfl
        | some p => simp; omega
theorem findKey_run [hk : TyKey P t k] (x : KT k) (w : World) (ents : List MapEntry) (es : List (KT k × KT kv)) (h : ents.map (fun e => (e.key, e.val)) = es.map (fun q => (KV k q.1, KV kv q.2))) :
    ∃ r, (Instr.findKey t (KV k x) ents).run P w = .ok (r.map fun p => (p.1, KV kv p.2)) w ∧ Fnd es x r := by
  obtain ⟨d, hd, hn | hn⟩ := hk.now
  · obtain ⟨r, hr, hf⟩ := findNow_run (P := P) (t := t) hn x ents es 0 h
    refine ⟨r, ?_, hf⟩
    simp [Instr.findKey, run_underlying hd, hr]
  · obtain ⟨r, hr, hf⟩ := findAsking_run (P := P) (t := t) x w ents es 0 h
    refine ⟨r, ?_, hf⟩
    have e : Instr.findNow d (KV k x) ents 0 = none ∨ (ents = [] ∧ Instr.findNow d (KV k x) ents 0 = some none) := by
      cases ents with
      | nil => right; simp [Instr.findNow]
      | cons e ents =>
        left
        cases es with
        | nil => simp at h
        | cons q es =>
          simp only [List.map_cons, List.cons.injEq, Prod.mk.injEq] at h
          simp [Instr.findNow, h.1.1, hn]
    rcases e with e | ⟨rfl, e⟩
    · simp only [Instr.findKey, Sem.run_bind, run_underlying hd, Result.andThen_ok, e, hr]
      congr 1; cases r <;> simp
    · simp only [Instr.findKey, Sem.run_bind, run_underlying hd, Result.andThen_ok, e, Sem.run_pure]
      simp [Instr.findAsking] at hr
      cases r with
      | none => rfl
      | some p => simp at hr
end

section
variable {P : Program} {o : Fix} {Γ Δ : List Assn} {w : World}
class HasM (m : Nat) (kk kv : outParam Kd) (es : outParam (List (KT kk × KT kv))) (Γ : List Assn) (Δ : outParam (List Assn)) : Prop where
  sat : ∀ {π h}, Sat Γ π h ↔ Sat (mpA m kk kv es :: Δ) π h
instance (priority := high) HasM.here {m : Nat} {kk kv : Kd} {es : List (KT kk × KT kv)} {Γ : List Assn} : HasM m kk kv es (mpA m kk kv es :: Γ) Γ := ⟨Iff.rfl⟩
instance (priority := low) HasM.there {m : Nat} {kk kv : Kd} {es : List (KT kk × KT kv)} {B : Assn} {Γ Δ : List Assn} [h : HasM m kk kv es Γ Δ] : HasM m kk kv es (B :: Γ) (B :: Δ) := by
  have : HasI (mpA m kk kv es) Γ Δ := ⟨h.sat⟩
  exact ⟨(HasI.there (A := mpA m kk kv es) (B := B)).sat⟩

theorem mp_heap {m : Nat} {kk kv : Kd} {es : List (KT kk × KT kv)} (h : SH o (mpA m kk kv es :: Γ) w) : ∃ (ents : Array MapEntry) (clock : Nat), ents.toList.map (fun e => (e.key, e.val)) = es.map (fun q => (KV kk q.1, KV kv q.2)) ∧ SH o (objA m (.map ents clock) :: Γ) w := by
  obtain ⟨π, h, h1, h2, h3, h4, h5, a, r, hd, he, ⟨ents, clock, g1, g2⟩, hs⟩ := h
  exact ⟨ents, clock, g1, π, h, h1, h2, h3, h4, h5, a, r, hd, he, g2, hs⟩
theorem mkm_ok {t : TypeId} {kk kv : Kd} {K : Nat → World → Prop} (h : SH o Γ w) (hK : ∀ m w', SH o (mpA m kk kv [] :: Γ) w' → K m w') : mkm P t K w := by
  refine ⟨w.heap.size, w.alloc (.map #[] 0), by simp [Instr.makeMap, newObj, Sem.run, KV], hK _ _ ?_⟩
  exact (h.allocObj (.map #[] 0)).conseq (A := objA w.heap.size (.map #[] 0)) (B := mpA w.heap.size kk kv []) fun π h hp => ⟨#[], 0, rfl, hp⟩

theorem lookup_run {t tk te : TypeId} {m : Nat} {kk kv : Kd} {es : List (KT kk × KT kv)} {x : KT kk} {z : KT kv} (h : SH o Γ w) [hm : HasM m kk kv es Γ Δ] [ht : TyMp P t tk te] [hk : TyKey P tk kk] [hz : TyZ P te kv z] (ok : Bool) :
    ∃ r, (Instr.lookup t (.map (some m)) (KV kk x) ok).run P w = .ok (match r with | some (_, v) => if ok then .tuple #[KV kv v, .bool true] else KV kv v | none => if ok then .tuple #[KV kv z, .bool false] else KV kv z) w ∧ Fnd es x r := by
  obtain ⟨ents, clock, g1, g2⟩ := mp_heap (h.imp fun _ _ => hm.sat.1)
  have hh := g2.heap
  obtain ⟨r, hr, hf⟩ := findKey_run (P := P) (t := tk) x w ents.toList es g1
  refine ⟨r, ?_, hf⟩
  have hzv : (zeroValue te).run P w = .ok (KV kv z) w := by
    have := hz.ok
    cases hi : P.info? te with
    | none => simp [hi] at this
    | some i => simp [hi] at this; simp [zeroValue, typeInfo, program, Sem.run, hi, this]
  have hg : (getObj m).run P w = .ok (.map ents clock) w := by simp [getObj, Sem.run, hh]
  cases r with
  | none => cases ok <;> simp [Instr.lookup, run_underlying ht.ok, hg, hk.chk, hr, hzv]
  | some p => obtain ⟨i, v⟩ := p; cases ok <;> simp [Instr.lookup, run_underlying ht.ok, hg, hk.chk, hr]
theorem lk2_ok {t tk te : TypeId} {m : Nat} {kk kv : Kd} {es : List (KT kk × KT kv)} {x : KT kk} {z : KT kv} {K : KT kv → Bool → World → Prop} (h : SH o Γ w) [hm : HasM m kk kv es Γ Δ] [ht : TyMp P t tk te] [hk : TyKey P tk kk] [hz : TyZ P te kv z]
    (h1 : ∀ i v, Fnd es x (some (i, v)) → K v true w) (h2 : Fnd es x none → K z false w) : lk2 P t (some m) kk x kv K w := by
  obtain ⟨r, hr, hf⟩ := lookup_run (P := P) (t := t) (m := m) (x := x) h true
  cases r with
  | none => exact ⟨(z, false, ()), by rw [hr]; rfl, h2 hf⟩
  | some p => obtain ⟨i, v⟩ := p; exact ⟨(v, true, ()), by rw [hr]; rfl, h1 i v hf⟩
theorem lku_ok {t tk te : TypeId} {m : Nat} {kk kv : Kd} {es : List (KT kk × KT kv)} {x : KT kk} {z : KT kv} {K : KT kv → World → Prop} (h : SH o Γ w) [hm : HasM m kk kv es Γ Δ] [ht : TyMp P t tk te] [hk : TyKey P tk kk] [hz : TyZ P te kv z]
    (h1 : ∀ i v, Fnd es x (some (i, v)) → K v w) (h2 : Fnd es x none → K z w) : lku P t (some m) kk x kv K w := by
  obtain ⟨r, hr, hf⟩ := lookup_run (P := P) (t := t) (m := m) (x := x) h false
  cases r with
  | none => exact ⟨z, by rw [hr]; rfl, h2 hf⟩
  | some p => obtain ⟨i, v⟩ := p; exact ⟨v, by rw [hr]; rfl, h1 i v hf⟩
theorem mup_ok {t tk te : TypeId} {m : Nat} {kk kv : Kd} {es : List (KT kk × KT kv)} {x : KT kk} {y : KT kv} {K : World → Prop} (h : SH o Γ w) [hm : HasM m kk kv es Γ Δ] [ht : TyMp P t tk te] [hk : TyKey P tk kk]
    (h1 : ∀ i v w', Fnd es x (some (i, v)) → SH o (mpA m kk kv (es.set i (x, y)) :: Δ) w' → K w') (h2 : ∀ w', Fnd es x none → SH o (mpA m kk kv (es ++ [(x, y)]) :: Δ) w' → K w') : mup P t (some m) kk x kv y K w := by
  obtain ⟨ents, clock, g1, g2⟩ := mp_heap (h.imp fun _ _ => hm.sat.1)
  have hh := g2.heap
  obtain ⟨r, hr, hf⟩ := findKey_run (P := P) (t := tk) x w ents.toList es g1
  have hg : (getObj m).run P w = .ok (.map ents clock) w := by simp [getObj, Sem.run, hh]
  have hlen : ents.size = es.length := by have := congrArg List.length g1; simpa using this
  have hset : ∀ ob : Obj, (setObj m ob).run P w = .ok () (w.putObj m ob) := fun ob => by simp [setObj, Sem.run, hh, World.putObj]
  cases r with
  | none =>
    refine ⟨w.putObj m (.map (ents.push { key := KV kk x, val := KV kv y, born := clock }) (clock + 1)), ?_, h2 _ hf ?_⟩
    · simp [Instr.mapUpdate, run_underlying ht.ok, hg, hk.chk, hr, hset]
    · exact (g2.putObj _).conseq (A := objA m (.map (ents.push { key := KV kk x, val := KV kv y, born := clock }) (clock + 1))) (B := mpA m kk kv (es ++ [(x, y)])) fun π h hp => ⟨_, _, by simp [g1], hp⟩
  | some p =>
    obtain ⟨i, v⟩ := p
    have hi : es[i]? = some (x, v) := hf.1
    have hlt : i < ents.size := by rw [hlen]; exact (List.getElem?_eq_some_iff.1 hi).1
    have hkey : ents[i].key = KV kk x := by
      have := congrArg (fun l => l[i]?) g1
      simp only [List.getElem?_map, Array.getElem?_toList, hi, Array.getElem?_eq_getElem hlt, Option.map_some, Option.some.injEq, Prod.mk.injEq] at this
      exact this.1
    refine ⟨w.putObj m (.map (ents.modify i fun e => { e with key := KV kk x, val := KV kv y }) clock), ?_, h1 i v _ hf ?_⟩
    · have hst : (Instr.keyThatStays (KV kk x) (KV kk x)).run P w = .ok (KV kk x) w := by
        unfold Instr.keyThatStays
        rw [if_pos (hk.bits x)]; rfl
      have hget : (((ents[i]?).map (·.key)).getD (KV kk x)) = KV kk x := by simp [Array.getElem?_eq_getElem hlt, hkey]
      simp [Instr.mapUpdate, run_underlying ht.ok, hg, hk.chk, hr, hget, hst, hset]
    · refine (g2.putObj _).conseq (A := objA m (.map (ents.modify i fun e => { e with key := KV kk x, val := KV kv y }) clock)) (B := mpA m kk kv (es.set i (x, y))) fun π h hp => ⟨_, _, ?_, hp⟩
      apply List.ext_getElem?
      intro j
      have := congrArg (fun l => l[j]?) g1
      simp only [List.getElem?_map, Array.getElem?_toList, Array.getElem?_modify, List.getElem?_set] at this ⊢
      by_cases e : i = j
      · subst e
        simp only [if_true]
        rw [if_pos (by rw [← hlen]; exact hlt), Array.getElem?_eq_getElem hlt]; simp
      · simp only [if_neg e]; exact this
end

/- Keys. -/
theorem bytes_inj {a b : Bs} : (⟨a.toArray⟩ : ByteArray) = ⟨b.toArray⟩ ↔ a = b := by
  constructor
  · intro h
    have := congrArg (fun x => x.data.toList) h
    simpa using this
  · rintro rfl; rfl
theorem bytes_beq (a b : Bs) : ((⟨a.toArray⟩ : ByteArray) == ⟨b.toArray⟩) = decide (a = b) := by
  show (a.toArray == b.toArray) = _
  rw [Bool.eq_iff_iff]; simp
theorem sameBits_s (n : Nat) (a b : ByteArray) : Instr.sameBits n (.string a) (.string b) = (a == b) := by cases n <;> rfl
instance TyKey.str {P : Program} {t : TypeId} [ht : TyD P t .string] : TyKey P t .s where
  eqv x y w := ⟨decide (x = y), by
    show (Op.equalIn (9999 + 1) t _ _).run P w = _
    rw [Op.equalIn]
    simp [run_underlying ht.ok, KV, bytes_beq], by simp⟩
  chk e x w := by
    show (Instr.checkKey e (9999 + 1) t _).run P w = _
    rw [Instr.checkKey]
    simp [run_underlying ht.ok, KV]
  bits x := by rw [KV, sameBits_s, bytes_beq]; simp
  now := ⟨.string, ht.ok, .inl fun x y => ⟨decide (x = y), by simp [Instr.sameNow, KV, bytes_beq], by simp⟩⟩

abbrev kA4 : Kd := .st [.i .u8, .i .u8, .i .u8, .i .u8]
theorem arr4_eq {P : Program} {t te : TypeId} {i : TypeInfo} (ht : P.underlying t = some (.array 4 te)) (he : P.underlying te = some (.int .u8)) (hi : P.info? te = some i) (hs : i.size = 1) (d : Nat) (a b c e a' b' c' e' : Int) (w : World) :
    (Op.equalIn (d + 2) t (.agg #[.int .u8 a, .int .u8 b, .int .u8 c, .int .u8 e]) (.agg #[.int .u8 a', .int .u8 b', .int .u8 c', .int .u8 e'])).run P w = .ok (a == a' && b == b' && c == c' && e == e') w := by
  have hq : ∀ (x y : Int) (w : World), (Op.equalIn (d + 1) te (.int .u8 x) (.int .u8 y)).run P w = .ok (x == y) w := fun x y w => by
    rw [Op.equalIn]; simp [run_underlying he]
  rw [Op.equalIn]
  simp [run_underlying ht, sizeOf, typeInfo, hi, hs, part, isAgg, run_underlying he, Std.Legacy.Range.forIn_eq_forIn_range', List.range', hq]
  by_cases h1 : a = a' <;> by_cases h2 : b = b' <;> by_cases h3 : c = c' <;> by_cases h4 : e = e' <;> simp [h1, h2, h3, h4]
theorem sameBits_i (n : Nat) (j k : IntKind) (a b : Int) : Instr.sameBits n (.int j a) (.int k b) = (j == k && a == b) := by cases n <;> rfl
theorem TyKey.arr4 {P : Program} {t te : TypeId} [ht : TyD P t (.array 4 te)] [he : TyD P te (.int .u8)] [hk : TyK P te (.i .u8)] : TyKey P t kA4 := by
  obtain ⟨d, i, hu, hi, hr, hs, _⟩ := hk.spec
  have hs : i.size = 1 := hs
  refine { eqv := ?_, chk := ?_, bits := ?_, now := ?_ }
  · rintro ⟨a, b, c, e, _⟩ ⟨a', b', c', e', _⟩ w
    refine ⟨_, arr4_eq (P := P) ht.ok he.ok hi hs 9998 a b c e a' b' c' e' w, ?_⟩
    simp [and_assoc]
  · rintro em ⟨a, b, c, e, _⟩ w
    have hq : ∀ (x : Int) (w : World), (Instr.checkKey em (9998 + 1) te (.int .u8 x)).run P w = .ok () w := fun x w => by
      rw [Instr.checkKey]; simp [run_underlying he.ok]
    show (Instr.checkKey em (9999 + 1) t (.agg #[.int .u8 a, .int .u8 b, .int .u8 c, .int .u8 e])).run P w = _
    rw [Instr.checkKey]
    simp [run_underlying ht.ok, sizeOf, typeInfo, hi, hs, part, isAgg, run_underlying he.ok, Std.Legacy.Range.forIn_eq_forIn_range', List.range', hq]
  · rintro ⟨a, b, c, e, _⟩
    show Instr.sameBits (9999 + 1) (.agg #[.int .u8 a, .int .u8 b, .int .u8 c, .int .u8 e]) (.agg #[.int .u8 a, .int .u8 b, .int .u8 c, .int .u8 e]) = true
    rw [Instr.sameBits]
    simp [sameBits_i]
  · exact ⟨_, ht.ok, .inr fun x y => rfl⟩
end Go.W
/- Made slices; a string's bytes; arrays out of slices. -/
namespace Go.W
open Go

section
variable {P : Program} {o : Fix} {Γ Δ : List Assn} {w : World}

theorem mks_ok {t te : TypeId} {k : Kd} {z : KT k} {n : Nat} {i : Int} {K : Sl → World → Prop} (h : SH o Γ w) [ht : TySl P t te] [hk : TyK P te k] [hz : TyZ P te k z] [hE : TyE P te k] (hw : wd k = 1) (hok : okV k z) (hi : i = (n : Int)) (hn : n ≤ 1099511627776)
    (hK : ∀ r w', SH o (slO r te k (List.replicate n z) :: Γ) w' → r.len = n → K r w') : mks P t i i K w := by
  subst hi
  obtain ⟨inf, z', hi, hz', hzs, hby⟩ := hE.spec
  obtain ⟨d, i', hu', hi', hrw, hsz, hnt⟩ := hk.spec
  rw [hi] at hi'; cases hi'
  have hzz : z' = KV k z := by
    have := hz.ok
    rw [hi] at this; simp only [Option.bind_some, hz', Option.some.injEq] at this; exact this
  have hc := cells_KV hnt hok
  have hone : ∃ v, KC k z = [v] := by
    have := KC_len k z
    rw [hw] at this
    match KC k z, this with
    | [v], _ => exact ⟨v, rfl⟩
  obtain ⟨v, hv⟩ := hone
  have hz1 : z'.cells = #[v] := by rw [hzz]; apply Array.toList_inj.1; rw [hc, hv]
  have hb : inf.bytes * n ≤ 281474976710656 := Nat.le_trans (Nat.mul_le_mul hby hn) (by decide)
  have hinfo : (P.info? te).map (fun i => (i.zero, i.size, i.bytes)) = some (some z', 1, inf.bytes) := by rw [hi]; simp [hz', hsz, hw]
  have hr := run_make (P := P) w t te inf z' ht.ok hi hz' .i64 .i64 (n : Int) (n : Int) (by omega) (Int.le_refl _) (by have : ((inf.bytes * n : Nat) : Int) ≤ 281474976710656 := by omega
                                                                                                                       rwa [Int.natCast_mul] at this) (by omega)
  have hsz1 : inf.size = 1 := by rw [hsz, hw]
  simp only [Int.toNat_natCast, hsz1, Nat.mul_one, hz1] at hr
  refine ⟨⟨some ⟨w.heap.size, 0, none⟩, n, n⟩, _, hr, hK _ _ ?_ rfl⟩
  have hrows : ∀ m : Nat, rows k (List.replicate m z) = List.replicate m v := by
    intro m
    unfold rows
    induction m with
    | zero => rfl
    | succ m ih => rw [List.replicate_succ, List.flatMap_cons, hv, ih]; rfl
  have hmade : (madeCells #[v] n).toList = List.replicate n v := by
    apply List.ext_getElem
    · simp [madeCells]
    · intro i h1 h2
      simp [madeCells, Nat.mod_one]
  have := h.row (t := te) (k := k) (xs := List.replicate n z) (post := []) (c := n) (w' := w.alloc (.cells (madeCells #[v] n) te)) (by
    show w.heap.push _ = _
    congr 2
    apply Array.toList_inj.1
    rw [hmade]; simp [hrows]) rfl rfl (by simp) (by simp)
  simpa using this

/-- A string's bytes, as a slice that is read. -/
theorem conv_sb {ts t te : TypeId} {s : Bs} {K : Sl → World → Prop} (h : SH o Γ w) [hs : TyD P ts .string] [ht : TySl P t te] [he : TyD P te (.int .u8)] (hK : ∀ r w', SH o (slR r (.i .u8) (intsOf s) :: Γ) w' → (∃ b, r.a = some ⟨b, 0, none⟩) → K r w') :
    mop P (convert ts t (.string ⟨s.toArray⟩)) .sl K w := by
  have hr := Lib.run_convert_string_bytes (P := P) w ts t te ⟨s.toArray⟩ hs.ok ht.ok he.ok
  have hsize : (⟨s.toArray⟩ : ByteArray).size = s.length := by simp [ByteArray.size]
  rw [hsize] at hr
  refine ⟨⟨some ⟨w.heap.size, 0, none⟩, s.length, grownCap w s.length 0 te⟩, _, hr, hK _ _ ?_ ⟨_, rfl⟩⟩
  have hheap : (Lib.bytesWorld w te ⟨s.toArray⟩).heap = w.heap.push (.cells (Lib.bytesCells w te ⟨s.toArray⟩) te ((Lib.bytesCells w te ⟨s.toArray⟩).size, (Lib.bytesCells w te ⟨s.toArray⟩).size + 1)) := by
    apply Array.ext_getElem?
    intro j
    rcases Nat.lt_trichotomy j w.heap.size with hj | rfl | hj
    · rw [Lib.bytesWorld_at_old w te _ j hj, Array.getElem?_push]; simp [Nat.ne_of_lt hj]
    · rw [Lib.bytesWorld_at_new]; simp
    · rw [Array.getElem?_eq_none (by rw [Lib.bytesWorld_size]; omega), Array.getElem?_eq_none (by simp; omega)]
  have hos : (Lib.bytesWorld w te ⟨s.toArray⟩).os = w.os ∧ (Lib.bytesWorld w te ⟨s.toArray⟩).output = w.output := by
    unfold Lib.bytesWorld World.freeze; constructor <;> rfl
  have hn := h.new _ hheap hos.1 hos.2
  have hf := hn.freeze
  generalize hB : Lib.bytesCells w te ⟨s.toArray⟩ = B at hf
  refine hf.conseq (A := roA w.heap.size (.cells B te (B.size, B.size + 1))) (B := slR ⟨some ⟨w.heap.size, 0, none⟩, s.length, grownCap w s.length 0 te⟩ (.i .u8) (intsOf s)) fun π h hp => ?_
  obtain ⟨hp1, hp2⟩ : π w.heap.size = some (.cells B te (B.size, B.size + 1)) ∧ h = Frag.emp := hp
  refine ⟨by simp, grownCap_ge .., hp2, .inr ⟨w.heap.size, [], (Array.replicate (grownCap w s.length 0 te - s.length) (Value.int .u8 0)).toList, te, (B.size, B.size + 1), rfl, ?_⟩⟩
  rw [hp1, ← hB]
  congr 2
  apply Array.toList_inj.1
  rw [rows_int]
  simp [Lib.bytesCells, hsize, intsOf]

/-- An array out of a slice. -/
theorem s2a_ok {t te : TypeId} {n : Nat} {s : Sl} {K : Option Addr → World → Prop} [ht : TyD P t (.array n te)] (hl : n ≤ s.len) (hK : K s.a w) : mrd P (Instr.arrayAt t (.slice s.a s.len s.cap)) .p K w := by
  refine ⟨_, ?_, hK⟩
  simp [Instr.arrayAt, run_underlying ht.ok, KV, Nat.not_lt.2 hl]
theorem ld_a4 {t : TypeId} {s : Sl} {a b c e : Int} {K : KT kA4 → World → Prop} [hk : TyK P t kA4] (hr : rdS s (.i .u8) [a, b, c, e] w) (hK : K (a, b, c, e, ()) w) : mrd P (Instr.loadAt t (.pointer s.a)) kA4 K w := by
  obtain ⟨h1, h2, h3⟩ := hr
  rcases h3 with h3 | ⟨b', pre, post, ty, fr, ha, hb⟩
  · simp at h1; omega
  · refine ⟨(a, b, c, e, ()), ?_, hK⟩
    rw [ha]
    exact run_loadAt_k (k := kA4) (rangeAt_cells (mid := KC kA4 (a, b, c, e, ())) hb rfl)
end
end Go.W
/- Arrays as variables; permutations of assertions. -/
namespace Go.W
open Go

theorem Sat.perm {Γ Γ' : List Assn} (hp : Γ.Perm Γ') : ∀ {π h}, Sat Γ π h → Sat Γ' π h := by
  induction hp with
  | nil => exact fun h => h
  | cons A _ ih => rintro π h ⟨h1, h2, hd, e, ha, hs⟩; exact ⟨h1, h2, hd, e, ha, ih hs⟩
  | swap A B Γ => exact fun h => Sat.swap h
  | trans _ _ ih1 ih2 => exact fun h => ih2 (ih1 h)
theorem SH.perm {o : Fix} {Γ Γ' : List Assn} {w : World} (h : SH o Γ w) (hp : Γ.Perm Γ') : SH o Γ' w := h.imp fun _ _ hs => hs.perm hp
theorem map_pick {α : Type} {L : List α} {i : Nat} {q : α} (f : α → Assn) (hq : L[i]? = some q) : (L.map f).Perm (f q :: (L.eraseIdx i).map f) := by
  have h := List.getElem?_eq_some_iff.1 hq
  have : L.Perm (L[i]'h.1 :: L.eraseIdx i) := by
    rw [List.eraseIdx_eq_take_drop_succ]
    conv => lhs; rw [← List.take_append_drop i L, List.drop_eq_getElem_cons h.1]
    exact List.perm_middle
  have := this.map f
  rw [h.2] at this
  exact this

/-- An array's variable. -/
def arrA (a : Addr) (t : TypeId) (k : Kd) (xs : List (KT k)) : Assn := andA (a.off = 0 ∧ a.spot = none) (objA a.block (cellsO (rows k xs) t))
class HasAr (a : Addr) (t : outParam TypeId) (k : outParam Kd) (xs : outParam (List (KT k))) (Γ : List Assn) (Δ : outParam (List Assn)) : Prop where
  sat : ∀ {π h}, Sat Γ π h ↔ Sat (arrA a t k xs :: Δ) π h
instance (priority := high) HasAr.here {a : Addr} {t : TypeId} {k : Kd} {xs : List (KT k)} {Γ : List Assn} : HasAr a t k xs (arrA a t k xs :: Γ) Γ := ⟨Iff.rfl⟩
instance (priority := low) HasAr.there {a : Addr} {t : TypeId} {k : Kd} {xs : List (KT k)} {B : Assn} {Γ Δ : List Assn} [h : HasAr a t k xs Γ Δ] : HasAr a t k xs (B :: Γ) (B :: Δ) := by
  have : HasI (arrA a t k xs) Γ Δ := ⟨h.sat⟩
  exact ⟨(HasI.there (A := arrA a t k xs) (B := B)).sat⟩

section
variable {P : Program} {o : Fix} {Γ Δ : List Assn} {w : World}
theorem vr_arr {a : Addr} {t : TypeId} {k ke : Kd} {x : KT k} {xs : List (KT ke)} (e : KC k x = rows ke xs) : vr a t k x = arrA a t ke xs := by unfold vr arrA; rw [e]
theorem rows_pack (k : Kd) : ∀ (xs : List (KT k)), ∃ x : KTs (List.replicate xs.length k), KCs (List.replicate xs.length k) x = rows k xs
  | [] => ⟨(), rfl⟩
  | x :: xs => by
    obtain ⟨y, hy⟩ := rows_pack k xs
    exact ⟨(x, y), by simp only [List.length_cons, List.replicate_succ, KCs, hy, rows, List.flatMap_cons]⟩

/-- The address of an array's element. -/
theorem ixa_ar {t t' te : TypeId} {k : Kd} {n : Nat} {b : Addr} {kk : IntKind} {i : Int} {xs : List (KT k)} {K : Addr → World → Prop} (h : SH o Γ w) [hr : HasAr b t' k xs Γ Δ] [ht : TyD P t (.array n te)] [hk : TyK P te k] (h0 : 0 ≤ i) (h1 : i < n)
    (hK : ∀ a, EA (arS b n) k i.toNat a → K a w) : mrd P (Instr.indexAt t (.pointer (some b)) (.int kk i)) .ad K w := by
  obtain ⟨⟨_, hs⟩, _⟩ := SH.and.1 (h.imp fun _ _ => hr.sat.1)
  obtain ⟨d, inf, hu, hi, hr, hs', _⟩ := hk.spec
  obtain ⟨bb, off, spot⟩ := b
  simp only at hs; subst hs
  refine ⟨⟨bb, off + i.toNat * wd k, none⟩, ?_, hK _ ⟨bb, off, rfl, rfl⟩⟩
  simp [Instr.indexAt, asIntOf, run_underlying ht.ok, Instr.sureAddr, h0, h1, sizeOf, typeInfo, hi, hs', KV, Addr.add_mid]
theorem ld_ar {n : Nat} {b : Addr} {t t' : TypeId} {k : Kd} {xs : List (KT k)} {i : Nat} {a : Addr} {x : KT k} {K : KT k → World → Prop} (ea : EA (arS b n) k i a) (h : SH o Γ w) [hr : HasAr b t k xs Γ Δ] [TyK P t' k]
    (hx : xs[i]? = some x) (hK : K x w) : ld P t' a k K w := by
  obtain ⟨⟨h0, hs⟩, h2⟩ := SH.and.1 (h.imp fun _ _ => hr.sat.1)
  obtain ⟨bb, off, e1, rfl⟩ := ea
  simp only [arS, Option.some.injEq] at e1
  subst e1
  simp only at h0; subst h0
  have hb := h2.heap
  have hlt := (List.getElem?_eq_some_iff.1 hx).1
  rw [rows_at hx] at hb
  have hl := rows_len k (xs.take i)
  rw [List.length_take, Nat.min_eq_left (by omega)] at hl
  exact ⟨x, run_loadAt_k (rangeAt_cells (e := t) (fr := (0, 0)) (pre := rows k (xs.take i)) (mid := KC k x) (post := rows k (xs.drop (i + 1))) (by simpa using hb) (by simp [hl])), hK⟩
theorem sto_ar {n : Nat} {b : Addr} {t t' : TypeId} {k : Kd} {xs : List (KT k)} {i : Nat} {a : Addr} {y : KT k} {K : World → Prop} (ea : EA (arS b n) k i a) (h : SH o Γ w) [hr : HasAr b t k xs Γ Δ] [TyK P t' k]
    (hi : i < xs.length) (hK : ∀ w', SH o (arrA b t k (xs.set i y) :: Δ) w' → K w') (hok : okV k y := by exact okV_plain rfl _) : sto P t' a k y K w := by
  obtain ⟨⟨h0, hs⟩, h2⟩ := SH.and.1 (h.imp fun _ _ => hr.sat.1)
  obtain ⟨bb, off, e1, rfl⟩ := ea
  simp only [arS, Option.some.injEq] at e1
  subst e1
  simp only at h0; subst h0
  have hb := h2.heap
  simp only at hb h2
  have hlen : 0 + i * wd k + wd k ≤ (rows k xs).length := by
    rw [rows_len]
    have : (i + 1) * wd k ≤ xs.length * wd k := Nat.mul_le_mul_right _ hi
    rw [Nat.add_mul] at this; omega
  refine ⟨_, run_storeAt_k (off := 0 + i * wd k) hb hlen hok, hK _ (SH.and.2 ⟨⟨rfl, rfl⟩, ?_⟩)⟩
  have hx := List.getElem?_eq_getElem hi
  have hxi : (xs.set i y)[i]? = some y := by simp [hi]
  have t1 : (xs.set i y).take i = xs.take i := by rw [List.take_set_of_le (Nat.le_refl i)]
  have t2 : (xs.set i y).drop (i + 1) = xs.drop (i + 1) := by rw [List.drop_set_of_lt (by omega)]
  have hl := rows_len k (xs.take i)
  rw [List.length_take, Nat.min_eq_left (by omega)] at hl
  have e4 : (rows k xs).take (0 + i * wd k) ++ KC k y ++ (rows k xs).drop (0 + i * wd k + wd k) = rows k (xs.set i y) := by
    rw [rows_at hx, rows_at hxi, t1, t2, Nat.zero_add, ← hl, List.append_assoc (rows k (xs.take i)), List.take_left' rfl, List.drop_length_add_append]
    congr 1
    rw [List.drop_append_of_le_length (by rw [KC_len]; omega), List.drop_eq_nil_of_le (by rw [KC_len]; omega), List.nil_append]
  rw [e4]
  exact h2.put (cellsO (rows k (xs.set i y)) t) (heap_setRow hb _) rfl rfl
end
end Go.W
