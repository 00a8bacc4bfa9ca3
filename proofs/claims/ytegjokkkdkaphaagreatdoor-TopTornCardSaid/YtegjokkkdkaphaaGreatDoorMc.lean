/- Contracts of functions of the program, proved on their short texts. No condition. -/
import Derived.Test.YtegjokkkdkaphaaGreatDoorMb
set_option linter.unusedVariables false
set_option linter.unusedSimpArgs false
/- Contracts: packed texts. -/
namespace Go.Proofs.YtegjokkkdkaphaaGreatDoor
open Go Go.W
set_option maxRecDepth 100000

instance : TyKey P t_arr4_uint8 k_arr4_uint8 := TyKey.arr4

section
variable {o : Fix} {Γ Δ : List Assn} {w : World}

theorem literal_ok {R : Unit → World → Prop} {b : Addr} {bs s : Bs} (h : SH o Γ w) [hb : Has (bld b) bs Γ Δ] (hs : s.length ≤ 1099511627) (hl : bs.length ≤ 1099511627)
    (hR : ∀ w', SH o (bld b (bs ++ lit s) :: Δ) w' → R () w') : mcall P n_lz_literal [(.pointer (some b)), (.string ⟨s.toArray⟩)] (.tup []) R w := by
  apply lz_literal_call
  have h := SH.take (f := bld b) h
  cases s with
  | nil =>
    refine mif_ok (fun g => ?_) (fun g => ?_)
    · simp at g
    · exact hR w (by simpa [lit] using h)
  | cons c s =>
    refine mif_ok (fun g => ?_) (fun g => ?_)
    · rw [w64_of (by omega) (by omega)]
      refine Put_ok ⟨by omega, by omega⟩ h fun w h => ?_
      have := vput_len (n := 2 * ((c :: s).length : Int)) ⟨by omega, by omega⟩
      refine WriteString_ok h (by omega) fun r w h => ?_
      refine WriteString_ok h (by rw [List.length_append]; omega) fun r w h => ?_
      exact hR w (by simpa [lit] using h)
    · simp at g

/-- The period. -/
theorem period_ok {R : Int → World → Prop} {s : Bs} (hs : s.length ≤ 1099511627) (h : SH o Γ w)
    (hR : ∀ (k : Nat) w', (s = [] ∧ k = 0 ∨ k < s.length) → isB s k s.length → SH o Γ w' → R ((s.length : Int) - k) w') : mcall P n_lz_period [(.string ⟨s.toArray⟩)] I R w := by
  apply lz_period_call
  have e1 : w64 ((s.length : Int) + 1) = ((s.length + 1 : Nat) : Int) := w64_of (by omega) (by omega)
  unfold lz_period_0
  rw [e1]
  refine mks_ok (z := (0 : Int)) h rfl (okV_plain rfl _) rfl (by omega) fun bd w h hbl => ?_
  unfold lz_period_1 lz_period_3 lz_period_4
  refine loop_ok (fun (g : Nat × Nat × List Int) t w => t = ((g.1 : Int), (g.2.1 : Int), ()) ∧ SH o (slO bd t_int I g.2.2 :: Γ) w ∧ g.2.2.length = s.length + 1 ∧ 1 ≤ g.2.1 ∧ g.2.1 ≤ s.length + 1 ∧ (s ≠ [] → g.2.1 ≤ s.length) ∧ g.1 < g.2.1 ∧ isB s g.1 g.2.1 ∧
      g.2.2[0]? = some 0 ∧ (∀ j, 1 ≤ j → j ≤ g.2.1 → j ≤ s.length → ∃ k : Nat, g.2.2[j]? = some (k : Int) ∧ k < j ∧ isB s k j)) (fun g => s.length + 1 - g.2.1)
    (0, 1, List.replicate (s.length + 1) 0) ⟨rfl, h, by simp, Nat.le_refl _, by simp, fun hne => List.length_pos_iff.2 hne, Nat.zero_lt_one, isB.zero .., by simp, fun j h1 h2 h3 => ⟨0, by simp only at h2; rw [List.getElem?_replicate, if_pos (by omega)]; rfl, by omega, isB.zero ..⟩⟩ ?_
  rintro ⟨k, i, xs⟩ _ w cont ⟨rfl, h, hxl, hi1, hi2, hi3, hki, hB, hx0, hx⟩ hc
  simp only at h hxl hi1 hi2 hi3 hki hB hx0 hx
  dsimp only
  refine mif_ok (fun g1 => ?_) (fun g1 => ?_)
  · have hlt : i < s.length := by simp at g1; omega
    have fin11 : ∀ (k' : Nat) w, k' < i + 1 → isB s k' (i + 1) → SH o (slO bd t_int I xs :: Γ) w → lz_period_11 cont R s bd (k' : Int) (i : Int) w := by
      intro k' w hk' hB' h
      unfold lz_period_11
      rw [w64_of (by omega) (by omega)]
      have hbl2 := h.len (s := bd)
      refine ixa_ok h (by omega) (by omega) fun e ea => ?_
      have e1 : ((i : Int) + 1).toNat = i + 1 := by omega
      rw [e1] at ea
      refine sto_el ea h (by omega) fun w h => ?_
      unfold lz_period_7
      rw [w64_of (by omega) (by omega)]
      refine hc (k', i + 1, xs.set (i + 1) (k' : Int)) _ w (by simp only; omega) ⟨rfl, h, by simp [hxl], by simp, by simp only; omega, fun _ => by simp only; omega, hk', hB', ?_, ?_⟩
      · simp only; rw [List.getElem?_set_ne (by omega)]; exact hx0
      · intro j h1 h2 h3
        simp only at h2 ⊢
        by_cases e : j = i + 1
        · subst e
          exact ⟨k', by rw [List.getElem?_set_self (by omega)], hk', hB'⟩
        · obtain ⟨k2, q1, q2, q3⟩ := hx j h1 (by omega) h3
          exact ⟨k2, by rw [List.getElem?_set_ne (by omega)]; exact q1, q2, q3⟩
    have fin10 : ∀ (k' : Nat) w, k' < i → isB s k' i → (k' = 0 ∨ s[i]? = s[k']?) → SH o (slO bd t_int I xs :: Γ) w → lz_period_10 cont R s bd (k' : Int) (i : Int) w := by
      intro k' w hk' hB' hor h
      refine mdraw_ok h fun w h => ?_
      refine ixs_ok (b := s[i]) (by omega) (gete hlt) ?_
      refine ixs_ok (b := s[k']) (by omega) (gete (by omega)) ?_
      have ei : s[i]? = some s[i] := List.getElem?_eq_getElem hlt
      have ek : s[k']? = some s[k'] := List.getElem?_eq_getElem (by omega)
      refine mif_ok (fun g2 => ?_) (fun g2 => ?_)
      · have e : s[i] = s[k'] := by rw [u8_beq] at g2; simpa using g2
        rw [w64_of (by omega) (by omega)]
        exact fin11 (k' + 1) w (by omega) (hB'.succ (by rw [ei, ek, e])) h
      · have : k' = 0 := by
          rcases hor with h' | h'
          · exact h'
          · rw [ei, ek] at h'
            simp only [Option.some.injEq] at h'
            simp [h'] at g2
        subst this
        exact fin11 0 w (by omega) (isB.zero ..) h
    unfold lz_period_6 lz_period_8 lz_period_9
    refine loop_ok (fun (k' : Nat) t w => t = ((k' : Int), ()) ∧ k' < i ∧ isB s k' i ∧ SH o (slO bd t_int I xs :: Γ) w) (fun k' => k') k ⟨rfl, hki, hB, h⟩ ?_
    rintro k' _ w cont2 ⟨rfl, hk', hB', h⟩ hc2
    dsimp only
    refine mdraw_ok h fun w h => ?_
    refine mif_ok (fun g2 => ?_) (fun g2 => ?_)
    · have hkp : 1 ≤ k' := by simp at g2; omega
      refine ixs_ok (b := s[i]) (by omega) (gete hlt) ?_
      refine ixs_ok (b := s[k']) (by omega) (gete (by omega)) ?_
      have ei : s[i]? = some s[i] := List.getElem?_eq_getElem hlt
      have ek : s[k']? = some s[k'] := List.getElem?_eq_getElem (by omega)
      refine mif_ok (fun g3 => ?_) (fun g3 => ?_)
      · obtain ⟨k2, q1, q2, q3⟩ := hx k' hkp (by omega) (by omega)
        refine ixa_ok h (by omega) (by omega) fun e ea => ?_
        refine ld_el ea h (x := (k2 : Int)) (by simpa using q1) ?_
        exact hc2 k2 _ w q2 ⟨rfl, by omega, q3.trans hB', h⟩
      · refine fin10 k' w hk' hB' (.inr ?_) h
        have : s[i] = s[k'] := by rw [u8_bne] at g3; simpa using g3
        rw [ei, ek, this]
    · have : k' = 0 := by simp at g2; omega
      subst this
      exact fin10 0 w hk' hB' (.inl rfl) h
  · unfold lz_period_2
    by_cases hs0 : s = []
    · have e0 : (s.length : Int) = 0 := by simp [hs0]
      have hbl2 := h.len (s := bd)
      rw [e0]
      refine ixa_ok h (by omega) (by omega) fun e ea => ?_
      refine ld_el ea h (x := (0 : Int)) (by simpa using hx0) ?_
      have := hR 0 w (.inl ⟨hs0, rfl⟩) (isB.zero ..) h.drop
      rw [e0] at this
      exact this
    · have hil := hi3 hs0
      have : i = s.length := by simp at g1; omega
      subst this
      obtain ⟨k2, q1, q2, q3⟩ := hx s.length hi1 (by omega) (by omega)
      refine ixa_ok h (by omega) (by omega) fun e ea => ?_
      refine ld_el ea h (x := (k2 : Int)) (by simpa using q1) ?_
      rw [w64_of (by omega) (by omega)]
      exact hR k2 w (.inr q2) q3 h.drop

theorem again_ok {R : Bs → World → Prop} {s : Bs} (hs : s.length ≤ 1048576) (h : SH o Γ w) (hR : ∀ out w', unpM 1048576 out [] = some s → out.length ≤ s.length + 32 → SH o Γ w' → R out w') : mcall P n_lz_again [(.string ⟨s.toArray⟩)] .s R w := by
  apply lz_again_call
  refine alo_ok h fun b w h => ?_
  have h := bld_new (tE := t_uint8) h
  refine period_ok (by omega) h fun k w hk hB h => ?_
  have litlen : ∀ x : Bs, x.length ≤ 1048576 → (lit x).length ≤ x.length + 10 := by
    intro x hx
    cases x with
    | nil => simp [lit]
    | cons c x =>
      have := vput_len (n := 2 * ((c :: x).length : Int)) ⟨by omega, by omega⟩
      simp only [lit, List.length_append]; omega
  have full : ∀ w, SH o (bld b [] :: Γ) w → lz_again_1 R s b (s.length : Int) w := by
    intro w h
    refine sls_to (by omega) (by omega) ?_
    rw [Int.toNat_natCast, List.take_length]
    refine literal_ok h (by omega) (by simp) fun w h => ?_
    rw [List.nil_append] at h
    have hl := litlen s hs
    refine mif_ok (fun g => ?_) (fun g => ?_)
    · simp at g
    refine BString_ok h (by omega) fun w h => ?_
    have hd := (Dec.zero s).lit (j := s.length) (by omega) (by omega) hs
    rw [List.nil_append, List.drop_zero, Nat.sub_zero, List.take_length] at hd
    exact hR _ w hd.all (by omega) h
  refine mif_ok (fun g1 => ?_) (fun g1 => ?_)
  · exact full w h
  rw [w64_of (by omega) (by omega)]
  refine mif_ok (fun g2 => ?_) (fun g2 => ?_)
  · exact full w h
  have hk4 : 4 ≤ k := by simp at g2; omega
  have hp : s.length - k ≤ 4096 := by simp at g1; omega
  have hkl : k < s.length := by
    rcases hk with ⟨rfl, rfl⟩ | hk
    · omega
    · exact hk
  have hper := hB.period hkl
  have en : (s.length : Int) - (k : Int) = ((s.length - k : Nat) : Int) := by omega
  rw [en]
  refine sls_to (by omega) (by omega) ?_
  rw [Int.toNat_natCast]
  have hl := litlen (s.take (s.length - k)) (by simp; omega)
  rw [List.length_take] at hl
  refine literal_ok h (by simp; omega) (by simp) fun w h => ?_
  rw [List.nil_append] at h
  refine mif_ok (fun g => ?_) (fun g => ?_)
  · have e1 : w64 ((w64 (2 * (w64 ((w64 ((s.length : Int) - ((s.length - k : Nat) : Int))) - 4)))) + 1) = 2 * ((k : Int) - 4) + 1 := by
      rw [w64_of (x := (s.length : Int) - ((s.length - k : Nat) : Int)) (by omega) (by omega), w64_of (x := (s.length : Int) - ((s.length - k : Nat) : Int) - 4) (by omega) (by omega), w64_of (x := 2 * ((s.length : Int) - ((s.length - k : Nat) : Int) - 4)) (by omega) (by omega), w64_of (by omega) (by omega)]
      omega
    rw [e1]
    refine bsl_ok h fun x w h => ?_
    refine PutAll_ok h (by intro n hn; simp at hn; rcases hn with rfl | rfl <;> constructor <;> omega) (by simp) fun w h => ?_
    have hct := ctok_len (n := (k : Int)) (back := ((s.length - k : Nat) : Int)) (by omega) (by omega)
    unfold ctok at hct
    refine WriteString_ok h (by omega) fun r w h => ?_
    refine BString_ok h (by rw [List.length_append]; omega) fun w h => ?_
    have hd := (Dec.zero s).lit (j := s.length - k) (by omega) (by omega) hs
    rw [List.nil_append, List.drop_zero, Nat.sub_zero] at hd
    have hd2 := hd.copy (n := k) (back := s.length - k) hk4 (by omega) hp (by omega) (by omega) hs (fun j hj => hper j (by omega))
    rw [show s.length - k + k = s.length by omega] at hd2
    exact hR _ w hd2.all (by rw [List.length_append]; omega) h.drop
  · simp at g; omega
end
end Go.Proofs.YtegjokkkdkaphaaGreatDoor
/- Contracts: packed texts, the parts; unpacking. -/
namespace Go.Proofs.YtegjokkkdkaphaaGreatDoor
open Go Go.W
set_option maxRecDepth 100000

def at4 (s : Bs) (i : Nat) : KT kA4 := (((s.getD i 0).toNat : Int), ((s.getD (i + 1) 0).toNat : Int), ((s.getD (i + 2) 0).toNat : Int), ((s.getD (i + 3) 0).toNat : Int), ())
theorem at4_list {s : Bs} {i : Nat} (h : i + 4 ≤ s.length) : intsOf ((s.drop i).take 4) = [(at4 s i).1, (at4 s i).2.1, (at4 s i).2.2.1, (at4 s i).2.2.2.1] := by
  have e : (s.drop i).take 4 = [s[i]'(by omega), s[i + 1]'(by omega), s[i + 2]'(by omega), s[i + 3]'(by omega)] := by
    rw [List.drop_eq_getElem_cons (by omega), List.drop_eq_getElem_cons (i := i + 1) (by omega), List.drop_eq_getElem_cons (i := i + 1 + 1) (by omega), List.drop_eq_getElem_cons (i := i + 1 + 1 + 1) (by omega)]
    rfl
  rw [e]
  simp [intsOf, at4, List.getElem?_eq_getElem (show i < s.length by omega), List.getElem?_eq_getElem (show i + 1 < s.length by omega), List.getElem?_eq_getElem (show i + 2 < s.length by omega), List.getElem?_eq_getElem (show i + 3 < s.length by omega)]
theorem at4_eq {s : Bs} {i p : Nat} (hi : i + 4 ≤ s.length) (hp : p + 4 ≤ s.length) (h : at4 s p = at4 s i) : ∀ j, j < 4 → s[p + j]? = s[i + j]? := by
  have hl := at4_list hi
  have hl2 := at4_list hp
  rw [h, ← hl] at hl2
  have := congrArg bytesOf hl2
  rw [bytesOf_intsOf, bytesOf_intsOf] at this
  intro j hj
  have h2 := congrArg (fun l => l[j]?) this
  simp only [List.getElem?_take, if_pos hj, List.getElem?_drop] at h2
  exact h2

section
variable {o : Fix} {Γ Δ : List Assn} {w : World}

theorem at_ok {R : T_arr4_uint8 → World → Prop} {s : Bs} {i : Nat} (hs : s.length ≤ 1099511627) (hi : i + 4 ≤ s.length) (h : SH o Γ w) (hR : ∀ w', SH o Γ w' → R (at4 s i) w') : mcall P n_lz_at [(.string ⟨s.toArray⟩), (.int .i64 (i : Int))] k_arr4_uint8 R w := by
  apply lz_at_call
  refine alo_ok h fun a w h => ?_
  rw [w64_of (by omega) (by omega)]
  refine sls_ok (by simp) (by simp; omega) (by simp; omega) ?_
  have e : ((some (((i : Int) + 4))).getD (s.length : Int)).toNat - ((some ((i : Int))).getD 0).toNat = 4 := by simp; omega
  rw [e]
  simp only [Option.getD_some, Int.toNat_natCast]
  refine conv_sb h fun x w h hx => ?_
  have hlen := h.len (s := x)
  rw [at4_list hi] at h hlen
  simp only [List.length_cons, List.length_nil] at hlen
  refine s2a_ok (by omega) ?_
  refine ld_a4 (h.rd (s := x)) ?_
  refine sto_var h fun w h => ?_
  refine ld_var h ?_
  exact hR w h.to

theorem alike_ok {R : Int → World → Prop} {s : Bs} {a b : Nat} (hs : s.length ≤ 1099511627) (hab : a < b) (hb : b ≤ s.length) (h : SH o Γ w)
    (hR : ∀ (n : Nat) w', b + n ≤ s.length → (∀ j, j < n → s[a + j]? = s[b + j]?) → (b + n < s.length → s[a + n]? ≠ s[b + n]?) → SH o Γ w' → R (n : Int) w') : mcall P n_lz_alike [(.string ⟨s.toArray⟩), (.int .i64 (a : Int)), (.int .i64 (b : Int))] I R w := by
  apply lz_alike_call
  unfold lz_alike_0 lz_alike_1
  refine loop_ok (fun (n : Nat) t w => t = ((n : Int), ()) ∧ b + n ≤ s.length ∧ (∀ j, j < n → s[a + j]? = s[b + j]?) ∧ SH o Γ w) (fun n => s.length - n) 0 ⟨rfl, by omega, fun j hj => by omega, h⟩ ?_
  rintro n _ w cont ⟨rfl, hn, hall, h⟩ hc
  dsimp only
  refine mdraw_ok h fun w h => ?_
  rw [w64_of (x := (b : Int) + n) (by omega) (by omega), w64_of (x := (a : Int) + n) (by omega) (by omega), w64_of (x := (n : Int) + 1) (by omega) (by omega)]
  refine mif_ok (fun g1 => ?_) (fun g1 => ?_)
  · have hlt : b + n < s.length := by simp at g1; omega
    have ea : s[a + n]? = some (s[a + n]'(by omega)) := List.getElem?_eq_getElem (by omega)
    have eb : s[b + n]? = some s[b + n] := List.getElem?_eq_getElem (by omega)
    have i1 : ((a : Int) + n).toNat = a + n := by omega
    have i2 : ((b : Int) + n).toNat = b + n := by omega
    refine ixs_ok (by omega) (by rw [i1]; exact ea) ?_
    refine ixs_ok (by omega) (by rw [i2]; exact eb) ?_
    rw [u8_beq]
    refine mif_ok (fun g2 => ?_) (fun g2 => ?_)
    · refine hc (n + 1) _ w (by omega) ⟨rfl, by omega, fun j hj => ?_, h⟩
      rcases Nat.lt_or_ge j n with h' | h'
      · exact hall j h'
      · have : j = n := by omega
        subst this
        rw [ea, eb]; simpa using g2
    · refine hR n w hn hall (fun _ => ?_) h
      rw [ea, eb]; simpa using g2
  · exact hR n w hn hall (fun h' => by simp at g1; omega) h

/-- What the map of places holds. -/
def places (s : Bs) (i : Nat) (es : List (KT kA4 × Int)) : Prop := ∀ q ∈ es, ∃ p : Nat, q.2 = (p : Int) ∧ p < i ∧ p + 4 ≤ s.length ∧ q.1 = at4 s p
theorem places.mono {s : Bs} {i j : Nat} {es : List (KT kA4 × Int)} (h : places s i es) (hij : i ≤ j) : places s j es := fun q hq => by
  obtain ⟨p, h1, h2, h3, h4⟩ := h q hq; exact ⟨p, h1, by omega, h3, h4⟩
theorem put_ok {K : World → Prop} {s : Bs} {i : Nat} {m : Nat} {es : List (KT kA4 × Int)} (hi : i + 4 ≤ s.length) (hp : places s i es) (h : SH o Γ w) [hm : HasM m kA4 I es Γ Δ]
    (hK : ∀ es' w', places s (i + 1) es' → SH o (mpA m kA4 I es' :: Δ) w' → K w') : mup P t_lz_seen (some m) k_arr4_uint8 (at4 s i) I (i : Int) K w := by
  refine mup_ok h (fun j v w' hf h => hK _ w' (fun q hq => ?_) h) (fun w' hf h => hK _ w' (fun q hq => ?_) h)
  · rcases List.mem_or_eq_of_mem_set hq with hq | rfl
    · exact hp.mono (by omega) q hq
    · exact ⟨i, rfl, by omega, hi, rfl⟩
  · rcases List.mem_append.1 hq with hq | hq
    · exact hp.mono (by omega) q hq
    · simp only [List.mem_singleton] at hq; subst hq; exact ⟨i, rfl, by omega, hi, rfl⟩

theorem parts_ok {R : Bs → World → Prop} {s : Bs} (hs : s.length ≤ 1048576) (h : SH o Γ w) (hR : ∀ out w', unpM 1048576 out [] = some s → SH o Γ w' → R out w') : mcall P n_lz_parts [(.string ⟨s.toArray⟩)] .s R w := by
  apply lz_parts_call
  refine alo_ok h fun b w h => ?_
  have h := bld_new (tE := t_uint8) h
  refine mkm_ok (kk := kA4) (kv := I) h fun m w h => ?_
  unfold lz_parts_1 lz_parts_3 lz_parts_4
  refine loop_ok (fun (g : Nat × Nat × Bs × List (KT kA4 × Int)) t w => t = ((g.1 : Int), (g.2.1 : Int), ()) ∧ g.1 ≤ g.2.1 ∧ g.2.1 ≤ s.length ∧ Dec s g.2.2.1 g.1 ∧ places s g.2.1 g.2.2.2 ∧ SH o (bld b g.2.2.1 :: mpA m kA4 I g.2.2.2 :: Γ) w) (fun g => s.length + 1 - g.2.1)
    (0, 0, [], []) ⟨rfl, by simp, by simp, Dec.zero s, fun q hq => by simp at hq, h.swap⟩ ?_
  rintro ⟨fr, i, out, es⟩ _ w cont ⟨rfl, hfi, hil, hd, hpl, h⟩ hc
  simp only at hfi hil hd hpl h
  dsimp only
  have hol := hd.2
  unfold lz_parts_5
  rw [w64_of (x := (i : Int) + 4) (by omega) (by omega)]
  refine mif_ok (fun g1 => ?_) (fun g1 => ?_)
  · have hi4 : i + 4 ≤ s.length := by simp at g1; omega
    unfold lz_parts_6 lz_parts_7
    refine at_ok (by omega) hi4 h fun w h => ?_
    refine alo_ok h fun a7 w h => ?_
    refine sto_var h fun w h => ?_
    refine ld_var h ?_
    have next : ∀ (es' : List (KT kA4 × Int)) w, places s (i + 1) es' → SH o (bld b out :: mpA m kA4 I es' :: Γ) w → cont ((fr : Int), w64 ((i : Int) + 1), ()) (s, b, m, ()) w := by
      intro es' w hp h
      rw [w64_of (by omega) (by omega)]
      exact hc (fr, i + 1, out, es') _ w (by simp only; omega) ⟨rfl, by simp only; omega, by simp only; omega, hd, hp, h⟩
    refine lk2_ok h (fun idx v hf => ?_) (fun hf => ?_)
    · obtain ⟨p, hv, hpi, hp4, hkey⟩ := hpl _ (List.mem_of_getElem? hf.1)
      simp only at hv hkey
      subst hv
      refine ld_var h ?_
      refine put_ok hi4 hpl h fun es' w hp' h => ?_
      refine mif_ok (fun g2 => ?_) (fun g2 => ?_)
      · cases g2
      have ew : w64 ((i : Int) - (p : Int)) = ((i - p : Nat) : Int) := by rw [w64_of (by omega) (by omega)]; omega
      rw [ew]
      refine mif_ok (fun g3 => ?_) (fun g3 => ?_)
      · exact next es' w hp' h.to
      have hback : i - p ≤ 4096 := by simp at g3; omega
      refine alike_ok (by omega) hpi (by omega) h fun n w hn hall hstop h => ?_
      have hn4 : 4 ≤ n := by
        have heq := at4_eq hi4 hp4 hkey.symm
        rcases Nat.lt_or_ge n 4 with h' | h'
        · exact absurd (heq n h') (hstop (by omega))
        · exact h'
      refine sls_ok (by simp) (by simp; omega) (by simp; omega) ?_
      simp only [Option.getD_some, Int.toNat_natCast]
      refine literal_ok h (by simp; omega) (by omega) fun w h => ?_
      have hd2 := hd.lit hfi hil hs
      have hol2 := hd2.2
      have e1 : w64 ((w64 (2 * (w64 ((n : Int) - 4)))) + 1) = 2 * ((n : Int) - 4) + 1 := by
        rw [w64_of (x := (n : Int) - 4) (by omega) (by omega), w64_of (x := 2 * ((n : Int) - 4)) (by omega) (by omega), w64_of (by omega) (by omega)]
      rw [e1]
      refine bsl_ok h fun x w h => ?_
      refine PutAll_ok h (by intro k hk; simp at hk; rcases hk with rfl | rfl <;> constructor <;> omega) (by simp) fun w h => ?_
      have hct := ctok_len (n := (n : Int)) (back := ((i - p : Nat) : Int)) (by omega) (by omega)
      unfold ctok at hct
      refine WriteString_ok h (by omega) fun r w h => ?_
      have hd3 := hd2.copy (n := n) (back := i - p) hn4 (by omega) hback (by omega) (by omega) hs (fun j hj => by rw [← hall j hj]; congr 1; omega)
      have ect : putAll [2 * ((n : Int) - 4) + 1, ((i - p : Nat) : Int)] = ctok n ((i - p : Nat) : Int) := rfl
      rw [ect] at h
      have h : SH o (bld b (out ++ W.lit ((s.drop fr).take (i - fr)) ++ ctok n ((i - p : Nat) : Int)) :: mpA m kA4 I es' :: Γ) w := h.to
      unfold lz_parts_8 lz_parts_10 lz_parts_11
      rw [w64_of (x := (i : Int) + 1) (by omega) (by omega)]
      refine loop_ok (fun (g : Nat × List (KT kA4 × Int)) t w => t = ((g.1 : Int), ()) ∧ i + 1 ≤ g.1 ∧ g.1 ≤ i + n ∧ places s g.1 g.2 ∧ SH o (bld b (out ++ W.lit ((s.drop fr).take (i - fr)) ++ ctok n ((i - p : Nat) : Int)) :: mpA m kA4 I g.2 :: Γ) w) (fun g => i + n - g.1)
        (i + 1, es') ⟨rfl, Nat.le_refl _, by simp only; omega, hp', h⟩ ?_
      rintro ⟨k, es2⟩ _ w cont2 ⟨rfl, hk1, hk2, hp2, h⟩ hc2
      simp only at hk1 hk2 hp2 h
      dsimp only
      have fin : ∀ w, SH o (bld b (out ++ W.lit ((s.drop fr).take (i - fr)) ++ ctok n ((i - p : Nat) : Int)) :: mpA m kA4 I es2 :: Γ) w → lz_parts_9 cont R s b m (i : Int) (n : Int) w := by
        intro w h
        unfold lz_parts_9
        rw [w64_of (x := (i : Int) + n) (by omega) (by omega)]
        exact hc (i + n, i + n, _, es2) _ w (by simp only; omega) ⟨by simp, by simp, by simp only; omega, hd3, hp2.mono hk2, h⟩
      unfold lz_parts_12
      rw [w64_of (x := (i : Int) + n) (by omega) (by omega), w64_of (x := (k : Int) + 4) (by omega) (by omega), w64_of (x := (k : Int) + 1) (by omega) (by omega)]
      refine mif_ok (fun g4 => ?_) (fun g4 => ?_)
      · refine mif_ok (fun g5 => ?_) (fun g5 => ?_)
        · have hk4 : k + 4 ≤ s.length := by simp at g5; omega
          refine at_ok (by omega) hk4 h fun w h => ?_
          refine put_ok hk4 hp2 h fun es3 w hp3 h => ?_
          exact hc2 (k + 1, es3) _ w (by simp at g4; simp only; omega) ⟨by simp, by simp only; omega, by simp at g4; simp only; omega, hp3, h.to⟩
        · exact fin w h
      · exact fin w h
    · refine ld_var h ?_
      refine put_ok hi4 hpl h fun es' w hp' h => ?_
      refine mif_ok (fun g2 => ?_) (fun g2 => ?_)
      · exact next es' w hp' h.to
      · cases g2
  · unfold lz_parts_2
    refine sls_from (by omega) (by omega) ?_
    rw [Int.toNat_natCast]
    refine literal_ok h (by simp; omega) (by omega) fun w h => ?_
    have hd2 := hd.lit (j := s.length) (by omega) (by omega) hs
    have et : (s.drop fr).take (s.length - fr) = s.drop fr := List.take_of_length_le (by simp)
    rw [et] at hd2
    have hol2 := hd2.2
    refine BString_ok h (by omega) fun w h => ?_
    exact hR _ w hd2.all h.drop

theorem Pack_ok {R : (Bs × Int × Unit) → World → Prop} {s : Bs} (hs : s.length ≤ 1048576) (h : SH o Γ w) (hR : ∀ out w', unpM 1048576 out [] = some s → out.length ≤ s.length + 32 → SH o Γ w' → R (out, 0, ()) w') : mcall P n_lz_Pack [(.string ⟨s.toArray⟩)] (.tup [.s, I]) R w := by
  apply lz_Pack_call
  refine mif_ok (fun g1 => ?_) (fun g1 => ?_)
  · simp at g1; omega
  refine again_ok hs h fun x1 w h1 hl1 h => ?_
  refine parts_ok hs h fun x2 w h2 h => ?_
  refine mif_ok (fun g2 => ?_) (fun g2 => ?_)
  · exact hR x2 w h2 (by simp at g2; omega) h
  · exact hR x1 w h1 hl1 h

/-- What Unpack tells. -/
def unpR (s : Bs) (most : Nat) : Bs × Int × Unit := match unpM most s [] with | some out => (out, 0, ()) | none => ([], 2, ())
theorem copyB_len : ∀ (n back : Nat) (b : Bs), (copyB n back b).length = b.length + n
  | 0, _, b => rfl
  | n + 1, back, b => by rw [copyB, copyB_len]; simp; omega
theorem Unpack_ok {R : (Bs × Int × Unit) → World → Prop} {s : Bs} {most : Nat} (hs : s.length ≤ 9223372036854775807) (hm : most ≤ 1048576) (h : SH o Γ w) (hR : ∀ w', SH o Γ w' → R (unpR s most) w') :
    mcall P n_lz_Unpack [(.string ⟨s.toArray⟩), (.int .i64 (most : Int))] (.tup [.s, I]) R w := by
  apply lz_Unpack_call
  refine mif_ok (fun g1 => ?_) (fun g1 => ?_)
  · simp at g1; omega
  refine mif_ok (fun g2 => ?_) (fun g2 => ?_)
  · simp at g2; omega
  have no : ∀ w', unpM most s [] = none → SH o Γ w' → R ([], 2, ()) w' := fun w' hn h => by
    have := hR w' h; unfold unpR at this; rwa [hn] at this
  have h := h.nilS t_uint8 (.i .u8)
  unfold lz_Unpack_1
  refine loop_ok (fun (g : Bs × Bs) t w => ∃ u, t = (g.1, u, ()) ∧ g.1.length ≤ s.length ∧ g.2.length ≤ most ∧ SH o (slO u t_uint8 (.i .u8) (intsOf g.2) :: Γ) w ∧ unpM most s [] = unpM most g.1 g.2) (fun g => g.1.length) (s, [])
    ⟨_, rfl, Nat.le_refl _, by simp, h, rfl⟩ ?_
  rintro ⟨s1, b⟩ _ w cont ⟨u, rfl, hs1, hb, h, hu⟩ hc
  simp only at hs1 hb h hu
  dsimp only
  have hul := h.len (s := u)
  rw [intsOf_length] at hul
  refine mif_ok (fun g3 => ?_) (fun g3 => ?_)
  · have hne : s1 ≠ [] := by simpa using g3
    rw [unpM_cons hne] at hu
    unfold lz_Unpack_4 lz_Unpack_5
    refine Take_ok (by omega) h fun w h => ?_
    cases e1 : vtake s1 with
    | none =>
      rw [e1] at hu
      rw [takeR_none e1]
      refine mif_ok (fun g4 => ?_) (fun g4 => ?_)
      · exact no w hu h.drop
      · simp at g4
    | some y =>
      obtain ⟨n, r⟩ := y
      have hI := vtake_i64 e1
      have hrl := vtake_len e1
      obtain ⟨hI1, hI2⟩ := hI
      rw [e1] at hu
      simp only at hu
      rw [takeR_some e1]
      refine mif_ok (fun g4 => ?_) (fun g4 => ?_)
      · simp at g4
      refine mif_ok (fun g5 => ?_) (fun g5 => ?_)
      · exact no w (by rw [hu, if_pos (.inl (by simpa using g5))]) h.drop
      have hn1 : 1 ≤ n := by simp at g5; omega
      have etd : n.tdiv 2 = n / 2 := Int.tdiv_eq_ediv_of_nonneg (by omega)
      have etm : n.tmod 2 = n % 2 := Int.tmod_eq_emod_of_nonneg (by omega)
      dsimp only
      rw [etd, etm, w64_of (x := n / 2) (by omega) (by omega), w64_of (x := (most : Int) - (u.len : Int)) (by omega) (by omega), hul]
      refine mif_ok (fun g6 => ?_) (fun g6 => ?_)
      · exact no w (by rw [hu, if_pos (.inr (by simpa using g6))]) h.drop
      have hn2 : n / 2 ≤ (most : Int) - b.length := by simpa using g6
      rw [if_neg (by omega)] at hu
      refine mif_ok (fun g7 => ?_) (fun g7 => ?_)
      · have hev : n % 2 = 0 := by simpa using g7
        rw [if_pos hev] at hu
        refine mif_ok (fun g8 => ?_) (fun g8 => ?_)
        · exact no w (by rw [hu, if_pos (by simpa using g8)]) h.drop
        have hn3 : n / 2 ≤ r.length := by simpa using g8
        rw [if_neg (by omega)] at hu
        refine sls_to (by omega) hn3 ?_
        refine app_str h (by simp; omega) fun u2 w _ h => ?_
        refine sls_from (by omega) hn3 ?_
        refine hc (r.drop (n / 2).toNat, b ++ r.take (n / 2).toNat) _ w (by simp; omega) ⟨u2, rfl, by simp; omega, by simp; omega, by simpa using h, hu⟩
      · have hod : ¬ n % 2 = 0 := by simpa using g7
        rw [if_neg hod] at hu
        refine Take_ok (by omega) h fun w h => ?_
        cases e2 : vtake r with
        | none =>
          rw [e2] at hu
          rw [takeR_none e2]
          refine mif_ok (fun g4 => ?_) (fun g4 => ?_)
          · exact no w hu h.drop
          · simp at g4
        | some y =>
          obtain ⟨back, r2⟩ := y
          have hrl2 := vtake_len e2
          rw [e2] at hu
          simp only at hu
          rw [takeR_some e2]
          refine mif_ok (fun q1 => ?_) (fun q1 => ?_)
          · simp at q1
          refine mif_ok (fun q2 => ?_) (fun q2 => ?_)
          · exact no w (by rw [hu, if_pos (.inl (by simpa using q2))]) h.drop
          refine mif_ok (fun q3 => ?_) (fun q3 => ?_)
          · exact no w (by rw [hu, if_pos (.inr (.inl (by simpa using q3)))]) h.drop
          refine mif_ok (fun q4 => ?_) (fun q4 => ?_)
          · exact no w (by rw [hu, if_pos (.inr (.inr (.inl (by simpa using q4))))]) h.drop
          rw [w64_of (x := (most : Int) - (b.length : Int) - 4) (by omega) (by omega)]
          refine mif_ok (fun q5 => ?_) (fun q5 => ?_)
          · exact no w (by rw [hu, if_pos (.inr (.inr (.inr (by simpa using q5))))]) h.drop
          simp only [decide_eq_false_iff_not] at q2 q3 q4 q5
          rw [if_neg (by omega)] at hu
          rw [w64_of (x := n / 2 + 4) (by omega) (by omega)]
          unfold lz_Unpack_6
          have hcopy : ∀ (j : Nat) (bb : Bs), (j : Int) ≤ n / 2 + 4 → copyB (n / 2 + 4).toNat back.toNat b = copyB ((n / 2 + 4).toNat - j) back.toNat bb → True := fun _ _ _ _ => trivial
          refine loop_ok (fun (g : Nat × Bs) t w => ∃ u, t = (u, (g.1 : Int), ()) ∧ (g.1 : Int) ≤ n / 2 + 4 ∧ g.2.length = b.length + g.1 ∧ SH o (slO u t_uint8 (.i .u8) (intsOf g.2) :: Γ) w ∧
            copyB (n / 2 + 4).toNat back.toNat b = copyB ((n / 2 + 4).toNat - g.1) back.toNat g.2) (fun g => (n / 2 + 4).toNat - g.1) (0, b) ⟨u, rfl, by simp only; omega, rfl, h, rfl⟩ ?_
          rintro ⟨j, b2⟩ _ w cont2 ⟨u2, rfl, hj, hb2, h, hcp⟩ hc2
          simp only at hj hb2 h hcp
          dsimp only
          have hul2 := h.len (s := u2)
          rw [intsOf_length] at hul2
          refine mif_ok (fun q6 => ?_) (fun q6 => ?_)
          · have hjl : (j : Int) < n / 2 + 4 := by simpa using q6
            have hlen : b2.length - back.toNat < b2.length := by omega
            rw [hul2, w64_of (x := (b2.length : Int) - back) (by omega) (by omega)]
            refine ixa_ok h (by omega) (by omega) fun e ea => ?_
            have ei : ((b2.length : Int) - back).toNat = b2.length - back.toNat := by omega
            rw [ei] at ea
            refine ld_el ea h (intsOf_get (List.getElem?_eq_getElem hlen)) ?_
            refine bsl_ok h fun u3 w h => ?_
            refine app_ok h (by simp; omega) (fun y _ => okV_plain rfl y) fun u4 w h => ?_
            rw [w64_of (x := (j : Int) + 1) (by omega) (by omega)]
            have eg : b2.getD (b2.length - back.toNat) 0 = b2[b2.length - back.toNat] := by rw [List.getD_eq_getElem?_getD, List.getElem?_eq_getElem hlen]; rfl
            refine hc2 (j + 1, b2 ++ [b2[b2.length - back.toNat]]) _ w (by simp only; omega) ⟨u4, by simp, by simp only; omega, by simp; omega, ?_, ?_⟩
            · have e3 : intsOf (b2 ++ [b2[b2.length - back.toNat]]) = intsOf b2 ++ [(b2[b2.length - back.toNat].toNat : Int)] := by simp [intsOf]
              rw [e3]; exact h.to
            · rw [hcp]
              have : (n / 2 + 4).toNat - j = ((n / 2 + 4).toNat - (j + 1)) + 1 := by omega
              rw [this, copyB, eg]
          · have hjl : (j : Int) = n / 2 + 4 := by simp at q6; omega
            have hz : (n / 2 + 4).toNat - j = 0 := by omega
            rw [hz, copyB] at hcp
            rw [hcp] at hu
            exact hc (r2, b2) _ w (by simp only; omega) ⟨u2, rfl, by simp only; omega, by simp only; omega, h, hu⟩
  · have he : s1 = [] := by simpa using g3
    subst he
    rw [unpM_nil] at hu
    unfold lz_Unpack_2
    refine conv_bs (h.rd (s := u)) ?_
    rw [bytesOf_intsOf]
    have := hR w h.drop
    unfold unpR at this
    rwa [hu] at this
end
end Go.Proofs.YtegjokkkdkaphaaGreatDoor
/- TopTorn, but for the example that it plays behind. -/
namespace Go.Proofs.YtegjokkkdkaphaaGreatDoor
open Go Go.W
set_option maxRecDepth 100000

section
variable {o : Fix} {Γ Δ : List Assn} {w : World}

/-- What the first loop has laid. -/
structure Laid (l : List Itm) (i : Nat) (all : Bs) (base : Int) (told sizes ends : Sl) (Γ : List Assn) (o : Fix) (w : World) : Prop where
  ok : ∀ x ∈ l, ItmOk x
  len : l.length ≤ i
  all : all = lays (entsOf l)
  base : base = sumN l
  chain : ∀ j x, l[j]? = some x → x.1.1 = sumN (l.take j)
  sh : SH o (slO told t_string .s (l.map (·.2)) :: slO sizes t_int I (l.map (·.1.2.1)) :: slO ends t_int I ((List.range l.length).map fun j => ((lays (entsOf (l.take (j + 1)))).length : Int)) :: Γ) w
theorem itm_n {x : Itm} (h : ItmOk x) : 1 ≤ x.1.2.1 ∧ x.1.2.1 ≤ 64 := by have := h.chk; simp [fcheck] at this; omega
theorem sumN_bound : ∀ {l : List Itm}, (∀ x ∈ l, ItmOk x) → 0 ≤ sumN l ∧ sumN l ≤ 64 * l.length
  | [], _ => by simp [sumN]
  | x :: l, h => by
    have h1 := itm_n (h x (List.mem_cons_self ..))
    have h2 := sumN_bound fun y hy => h y (List.mem_cons_of_mem _ hy)
    simp only [sumN, List.length_cons]; omega

theorem TopTorn_ok {R : Bool → World → Prop} {l : Sl} {bs : List T_api_Batch} {ct : Int} (h : SH o Γ w) [hl : RdS l k_api_Batch bs Γ] (hall : ∀ b ∈ bs, ∃ rs, RdS b.2.2.2.2.1 k_api_Record rs Γ ∧ rs.length ≤ 9223372036854775807) (hcut : I64 ct)
    (haw : ∀ (K : Bool → World → Prop) w, SH o Γ w → (∀ w', SH o Γ w' → K true w') → mcall P n_headgatetop_awake17 [] .b K w)
    (hR : ∀ w', SH o Γ w' → R true w') : mcall P n_headgatetop_TopTorn [(Sl.v l), (.int .i64 ct)] .b R w := by
  apply headgatetop_TopTorn_call
  have hlen := h.len (s := l)
  have main : ∀ (l : Sl) (bs : List T_api_Batch) w, RdS l k_api_Batch bs Γ → bs.length ≤ 12 → (∀ b ∈ bs, ∃ rs, RdS b.2.2.2.2.1 k_api_Record rs Γ ∧ rs.length ≤ 9223372036854775807) → SH o Γ w → headgatetop_TopTorn_1 R l ct w := by
    clear hall h hlen hl
    intro l bs w hl h12 hall h
    have hlen := h.len (s := l)
    unfold headgatetop_TopTorn_1 headgatetop_TopTorn_2 headgatetop_TopTorn_13 headgatetop_TopTorn_14
    refine loop_ok (fun (g : Nat × List Itm) t w => ∃ told sizes ends, t = (lays (entsOf g.2), sumN g.2, told, sizes, ends, (g.1 : Int), ()) ∧ g.1 ≤ bs.length ∧ Laid g.2 g.1 (lays (entsOf g.2)) (sumN g.2) told sizes ends Γ o w) (fun g => bs.length - g.1) (0, [])
      ⟨_, _, _, rfl, by simp, ⟨by simp, by simp, rfl, rfl, by simp, ((h.nilS t_int I).nilS t_int I).nilS t_string .s⟩⟩ ?_
    rintro ⟨i, its⟩ _ w cont ⟨told, sizes, ends, rfl, hi, hL⟩ hc
    simp only at hi hL
    dsimp only
    have hsb := sumN_bound hL.ok
    have hit := hL.len
    have hents : ∀ e ∈ entsOf its, fcheck e = true := fun e he => by
      obtain ⟨x, hx, rfl⟩ := List.mem_map.1 he
      exact (hL.ok x hx).chk
    have hll := lays_len hents
    simp only [List.length_map] at hll
    refine mif_ok (fun g1 => ?_) (fun g1 => ?_)
    · -- one more batch
      have hlt : i < bs.length := by simp at g1; omega
      have h := hL.sh
      have hb := List.getElem?_eq_getElem hlt
      generalize hbe : bs[i] = b at hb
      obtain ⟨rs, hrs, hrl⟩ := hall b (by rw [← hbe]; exact List.getElem_mem hlt)
      have next : ∀ w, SH o _ w → headgatetop_TopTorn_16 cont R l ct (lays (entsOf its)) (sumN its) told sizes ends (i : Int) w := fun w (h : SH o (slO told t_string .s (its.map (·.2)) :: slO sizes t_int I (its.map (·.1.2.1)) :: slO ends t_int I ((List.range its.length).map fun j => ((lays (entsOf (its.take (j + 1)))).length : Int)) :: Γ) w) => by
        unfold headgatetop_TopTorn_16
        rw [w64_of (by omega) (by omega)]
        exact hc (i + 1, its) _ w (by simp only; omega) ⟨told, sizes, ends, rfl, hlt, ⟨hL.ok, by simp only; omega, rfl, rfl, hL.chain, h⟩⟩
      refine ixa_ok h (by omega) (by omega) fun e ea => ?_
      refine ld_el ea h hb ?_
      refine May_ok h fun w h => ?_
      refine mif_ok (fun g2 => ?_) (fun g2 => ?_)
      · exact next w h
      have hm : bmay b.1 b.2.1 b.2.2.1 b.2.2.2.1 rs = true := by simpa using g2
      have hml := encB_len hm
      have hms := bmay_spec hm
      refine ixa_ok h (by omega) (by omega) fun e2 ea2 => ?_
      refine ld_el ea2 h hb ?_
      have hrlen := h.len (s := b.2.2.2.2.1)
      refine Encode_ok h hrl fun w h => ?_
      rw [hm, if_pos rfl]
      refine Pack_ok (by simp only; omega) h fun p w hp hpl h => ?_
      simp only at hp hpl
      refine ixa_ok h (by omega) (by omega) fun e3 ea3 => ?_
      refine ld_el ea3 h hb ?_
      refine Len_ok h fun w h => ?_
      rw [hrlen]
      have hN : 1 ≤ mx 1 (rs.length : Int) ∧ mx 1 (rs.length : Int) ≤ 64 := by unfold mx; split <;> omega
      generalize hn : mx 1 (rs.length : Int) = n at hN
      refine Lay_ok (e := (sumN its, n, p, ())) h fun w h => ?_
      have hfc : fcheck (sumN its, n, p, ()) = true := by simp [fcheck]; omega
      rw [hfc, if_pos rfl]
      have hfl := flay_len hfc
      refine mif_ok (fun q => ?_) (fun q => ?_)
      · simp at q
      refine mif_ok (fun q => ?_) (fun q => ?_)
      · simp at q
      refine mif_ok (fun q => ?_) (fun q => ?_)
      · simp at q
      refine mif_ok (fun q => ?_) (fun q => ?_)
      · have : flay (sumN its, n, p, ()) = [] := by simpa using q
        rw [this] at hfl; simp at hfl
      refine mcat_ok (by simp only; omega) ?_
      refine bsl_ok h fun u1 w h => ?_
      refine app_ok h (by simp; omega) (fun y _ => okV_plain rfl y) fun told2 w h => ?_
      refine bsl_ok h fun u2 w h => ?_
      refine app_ok h (by simp; omega) (fun y _ => okV_plain rfl y) fun sizes2 w h => ?_
      refine bsl_ok h fun u3 w h => ?_
      refine app_ok h (by simp; omega) (fun y _ => okV_plain rfl y) fun ends2 w h => ?_
      unfold headgatetop_TopTorn_16
      rw [w64_of (x := (i : Int) + 1) (by omega) (by omega), w64_of (x := sumN its + n) (by omega) (by omega)]
      have hx : ItmOk ((sumN its, n, p, ()), encB b.1 b.2.1 b.2.2.1 b.2.2.2.1 rs) := ⟨hfc, hp, _, _, _, _, rs, hm, rfl⟩
      have ee : entsOf (its ++ [((sumN its, n, p, ()), encB b.1 b.2.1 b.2.2.1 b.2.2.2.1 rs)]) = entsOf its ++ [(sumN its, n, p, ())] := by simp
      have el : lays (entsOf (its ++ [((sumN its, n, p, ()), encB b.1 b.2.1 b.2.2.1 b.2.2.2.1 rs)])) = lays (entsOf its) ++ flay (sumN its, n, p, ()) := by rw [ee, lays_append]; simp [lays]
      have es : sumN (its ++ [((sumN its, n, p, ()), encB b.1 b.2.1 b.2.2.1 b.2.2.2.1 rs)]) = sumN its + n := by rw [sumN_append]; simp [sumN]
      refine hc (i + 1, its ++ [((sumN its, n, p, ()), encB b.1 b.2.1 b.2.2.1 b.2.2.2.1 rs)]) _ w (by simp only; omega) ⟨told2, sizes2, ends2, by simp only [el, es]; simp, by simp only; omega, ⟨?_, by simp; omega, rfl, rfl, ?_, ?_⟩⟩
      · intro y hy
        rcases List.mem_append.1 hy with hy | hy
        · exact hL.ok y hy
        · simp only [List.mem_singleton] at hy; subst hy; exact hx
      · intro j y hj
        simp only at hj ⊢
        rcases Nat.lt_or_ge j its.length with hjl | hjl
        · rw [List.getElem?_append_left hjl] at hj
          rw [hL.chain j y hj, List.take_append_of_le_length (by omega)]
        · rw [List.getElem?_append_right hjl] at hj
          have : j - its.length = 0 := by
            have := (List.getElem?_eq_some_iff.1 hj).1
            simp at this; omega
          rw [this] at hj
          simp at hj
          subst hj
          rw [List.take_append, List.take_of_length_le hjl, this]
          simp
      · have e1 : (its ++ [((sumN its, n, p, ()), encB b.1 b.2.1 b.2.2.1 b.2.2.2.1 rs)]).map (·.2) = its.map (·.2) ++ [encB b.1 b.2.1 b.2.2.1 b.2.2.2.1 rs] := by simp
        have e2 : (its ++ [((sumN its, n, p, ()), encB b.1 b.2.1 b.2.2.1 b.2.2.2.1 rs)]).map (·.1.2.1) = its.map (·.1.2.1) ++ [n] := by simp
        have e3 : (List.range (its ++ [((sumN its, n, p, ()), encB b.1 b.2.1 b.2.2.1 b.2.2.2.1 rs)]).length).map (fun j => ((lays (entsOf ((its ++ [((sumN its, n, p, ()), encB b.1 b.2.1 b.2.2.1 b.2.2.2.1 rs)]).take (j + 1)))).length : Int)) =
            (List.range its.length).map (fun j => ((lays (entsOf (its.take (j + 1)))).length : Int)) ++ [((lays (entsOf its) ++ flay (sumN its, n, p, ())).length : Int)] := by
          rw [List.length_append, List.length_cons, List.length_nil, List.range_succ, List.map_append]
          congr 1
          · apply List.map_congr_left
            intro j hj
            rw [List.take_append_of_le_length (by simp at hj; omega)]
          · simp only [List.map_cons, List.map_nil]
            rw [List.take_of_length_le (by simp), el]
        simp only
        rw [e1, e2, e3]
        exact h.to
    · -- the cut
      have h := hL.sh
      have hcn : (lays (entsOf its)).length ≤ 1000000 := by omega
      unfold headgatetop_TopTorn_3
      rw [w64_of (x := ((lays (entsOf its)).length : Int) + 1) (by omega) (by omega)]
      refine mdz_ok (by omega) ?_
      have back : ∀ (at_ : Nat) w, at_ ≤ (lays (entsOf its)).length → SH o (slO told t_string .s (its.map (·.2)) :: slO sizes t_int I (its.map (·.1.2.1)) :: slO ends t_int I ((List.range its.length).map fun j => ((lays (entsOf (its.take (j + 1)))).length : Int)) :: Γ) w →
          headgatetop_TopTorn_4 R (lays (entsOf its)) told sizes ends (at_ : Int) w := by
        clear h hc
        intro a w ha h
        have hel := h.len (s := ends)
        simp only [List.length_map, List.length_range] at hel
        unfold headgatetop_TopTorn_4 headgatetop_TopTorn_5
        have lk : ∀ k, (lays (entsOf (its.take k))).length ≤ 1000000 := fun k => by
          have e : (lays (entsOf its)).length = (lays (entsOf (its.take k))).length + (lays (entsOf (its.drop k))).length := by
            rw [← List.length_append, ← lays_append, ← List.map_append, List.take_append_drop]
          omega
        refine loop_ok (fun (k : Nat) t w => t = ((k : Int), ((lays (entsOf (its.take k))).length : Int), ()) ∧ k ≤ its.length ∧ (lays (entsOf (its.take k))).length ≤ a ∧
          SH o (slO told t_string .s (its.map (·.2)) :: slO sizes t_int I (its.map (·.1.2.1)) :: slO ends t_int I ((List.range its.length).map fun j => ((lays (entsOf (its.take (j + 1)))).length : Int)) :: Γ) w) (fun k => its.length - k) 0 ⟨by simp [lays], by omega, by simp [lays], h⟩ ?_
        rintro k _ w cont2 ⟨rfl, hk, hka, h⟩ hc2
        dsimp only
        have behind : ∀ w, (k = its.length ∨ a < (lays (entsOf (its.take (k + 1)))).length) → SH o (slO told t_string .s (its.map (·.2)) :: slO sizes t_int I (its.map (·.1.2.1)) :: slO ends t_int I ((List.range its.length).map fun j => ((lays (entsOf (its.take (j + 1)))).length : Int)) :: Γ) w →
            headgatetop_TopTorn_6 R (lays (entsOf its)) told sizes (a : Int) (k : Int) ((lays (entsOf (its.take k))).length : Int) w := by
          clear h hc2 cont2
          intro w hor h
          have hw : whole (entsOf its) a = (entsOf its).take k := whole_take _ k a (by simpa using hk) (by rw [← List.map_take]; exact hka) (by
            rcases hor with h' | h'
            · left; simpa using h'
            · right; rw [← List.map_take]; exact h')
          have hrow := rowM_lays (entsOf its) a hents
          rw [hw] at hrow
          unfold headgatetop_TopTorn_6
          refine sls_to (by omega) (by omega) ?_
          rw [Int.toNat_natCast]
          refine Row_ok (by simp; omega) h fun rows w h => ?_
          have hsum : sumF (rowM ((lays (entsOf its)).take a)) = ((lays (entsOf (its.take k))).length : Int) := by
            rw [hrow, ← List.map_take]
            unfold sumF
            rw [List.map_map]
            exact lays_sum _
          rw [hsum]
          rw [hrow, whole_map, ← List.map_take] at h
          have hrl := h.len (s := rows)
          simp only [List.length_map, List.length_take, Nat.min_eq_left hk] at hrl
          refine mif_ok (fun q => ?_) (fun q => ?_)
          · simp [hrl] at q
          refine mif_ok (fun q => ?_) (fun q => ?_)
          · simp at q
          unfold headgatetop_TopTorn_7 headgatetop_TopTorn_9 headgatetop_TopTorn_10
          refine loop_ok (fun (i : Nat) t w => t = (sumN (its.take i), (i : Int), ()) ∧ i ≤ k ∧
            SH o (slO rows t_api_Entry k_api_Record ((its.take k).map (·.1)) :: slO told t_string .s (its.map (·.2)) :: slO sizes t_int I (its.map (·.1.2.1)) :: slO ends t_int I ((List.range its.length).map fun j => ((lays (entsOf (its.take (j + 1)))).length : Int)) :: Γ) w) (fun i => k - i) 0
            ⟨by simp [sumN], by omega, h⟩ ?_
          rintro i _ w cont3 ⟨rfl, hik, h⟩ hc3
          dsimp only
          refine mif_ok (fun q => ?_) (fun q => ?_)
          · have hlt : i < k := by simpa using q
            have hli : i < its.length := by omega
            have hx := List.getElem?_eq_getElem hli
            generalize hxe : its[i] = x at hx
            have hxo := hL.ok x (List.mem_of_getElem? hx)
            have hxc := hL.chain i x hx
            have hxk : ((its.take k).map (·.1))[i]? = some x.1 := by rw [List.getElem?_map, List.getElem?_take, if_pos hlt, hx]; rfl
            have hxt : (its.map (·.2))[i]? = some x.2 := by rw [List.getElem?_map, hx]; rfl
            have hxs : (its.map (·.1.2.1))[i]? = some x.1.2.1 := by rw [List.getElem?_map, hx]; rfl
            have htl := h.len (s := told)
            have hsl := h.len (s := sizes)
            simp only [List.length_map] at htl hsl
            obtain ⟨k1, p1, e1, q1, rs, hm, hen⟩ := hxo.enc
            have hel2 := encB_len hm
            have hfc := hxo.chk
            simp only [fcheck, decide_eq_true_eq] at hfc
            refine ixa_ok h (by omega) (by omega) fun a1 ea1 => ?_
            refine ld_elf ea1 h hxk ?_
            refine Unpack_ok (most := 1048576) (by omega) (by omega) h fun w h => ?_
            unfold unpR
            rw [hxo.unp]
            refine Decode_ok (by simp only; rw [hen]; omega) h (fun lb k2 p2 e2 q2 rs2 w hd h => ?_) (fun w hd h => ?_)
            · simp only at hd
              rw [hen, decB_enc hm] at hd
              simp only [Option.some.injEq, Prod.mk.injEq] at hd
              obtain ⟨rfl, rfl, rfl, rfl, rfl⟩ := hd
              refine alo_ok h fun a2 w h => ?_
              refine sto_var h fun w h => ?_
              refine ld_var h ?_
              refine Encode_ok (rs := rs) h (by have := (bmay_spec hm).2.2.2.1; omega) fun w h => ?_
              simp only
              rw [hm, if_pos rfl]
              refine mdraw_ok h fun w h => ?_
              refine mif_ok (fun q => ?_) (fun q => ?_)
              · simp at q
              refine mif_ok (fun q => ?_) (fun q => ?_)
              · simp at q
              refine mif_ok (fun q => ?_) (fun q => ?_)
              · simp at q
              refine ixa_ok h (by omega) (by omega) fun a3 ea3 => ?_
              refine ld_el ea3 h hxt ?_
              refine mif_ok (fun q => ?_) (fun q => ?_)
              · simp at q
              refine mif_ok (fun q => ?_) (fun q => ?_)
              · simp [hen] at q
              refine ixa_ok h (by omega) (by omega) fun a4 ea4 => ?_
              refine ld_elf0 ea4 h hxk ?_
              refine mif_ok (fun q => ?_) (fun q => ?_)
              · simp [hxc] at q
              refine ixa_ok h (by omega) (by omega) fun a5 ea5 => ?_
              refine ld_elf ea5 h hxk ?_
              refine ixa_ok h (by omega) (by omega) fun a6 ea6 => ?_
              refine ld_el ea6 h hxs ?_
              refine mif_ok (fun q => ?_) (fun q => ?_)
              · simp at q
              refine ixa_ok h (by omega) (by omega) fun a7 ea7 => ?_
              refine ld_el ea7 h hxs ?_
              have hb1 := sumN_bound (l := its.take i) fun y hy => hL.ok y (List.mem_of_mem_take hy)
              rw [List.length_take] at hb1
              have est : sumN (its.take (i + 1)) = sumN (its.take i) + x.1.2.1 := by
                rw [List.take_add_one, hx, sumN_append]; simp [sumN]
              rw [w64_of (x := sumN (its.take i) + x.1.2.1) (by omega) (by omega), w64_of (x := (i : Int) + 1) (by omega) (by omega)]
              exact hc3 (i + 1) _ w (by omega) ⟨by rw [est]; rfl, by omega, h.to⟩
            · simp only at hd
              rw [hen, decB_enc hm] at hd; cases hd
          · unfold headgatetop_TopTorn_8
            refine haw _ w h.to fun w h => ?_
            exact hR w h
        refine mif_ok (fun g2 => ?_) (fun g2 => ?_)
        · have hkl : k < its.length := by simp at g2; omega
          have hek : ((List.range its.length).map fun j => ((lays (entsOf (its.take (j + 1)))).length : Int))[k]? = some ((lays (entsOf (its.take (k + 1)))).length : Int) := by
            rw [List.getElem?_map, List.getElem?_range hkl]; rfl
          refine ixa_ok h (by omega) (by omega) fun e1 ea1 => ?_
          refine ld_el ea1 h hek ?_
          refine mif_ok (fun g3 => ?_) (fun g3 => ?_)
          · refine ixa_ok h (by omega) (by omega) fun e2 ea2 => ?_
            refine ld_el ea2 h hek ?_
            rw [w64_of (by omega) (by omega)]
            exact hc2 (k + 1) _ w (by omega) ⟨rfl, hkl, by have := of_decide_eq_true g3; omega, h⟩
          · exact behind w (.inr (by have := of_decide_eq_false g3; omega)) h
        · exact behind w (.inl (by simp at g2; omega)) h
      have hT : ct.tmod (((lays (entsOf its)).length : Int) + 1) < ((lays (entsOf its)).length : Int) + 1 ∧ -(((lays (entsOf its)).length : Int) + 1) < ct.tmod (((lays (entsOf its)).length : Int) + 1) := by
        constructor
        · exact Int.tmod_lt_of_pos _ (by omega)
        · have := Int.lt_tmod_of_pos ct (b := ((lays (entsOf its)).length : Int) + 1) (by omega)
          omega
      generalize ct.tmod (((lays (entsOf its)).length : Int) + 1) = c at hT
      refine mif_ok (fun g2 => ?_) (fun g2 => ?_)
      · have hneg : c < 0 := by simpa using g2
        rw [w64_of (x := c + ((lays (entsOf its)).length : Int)) (by omega) (by omega), w64_of (by omega) (by omega)]
        have := back (c + ((lays (entsOf its)).length : Int) + 1).toNat w (by omega) h
        rwa [Int.toNat_of_nonneg (by omega)] at this
      · have hpos : 0 ≤ c := by simpa using g2
        have := back c.toNat w (by omega) h
        rwa [Int.toNat_of_nonneg (by omega)] at this
  refine mif_ok (fun g1 => ?_) (fun g1 => ?_)
  · have hgt : 12 < bs.length := by simp at g1; omega
    have hcap := (h.rd (s := l)).2.1
    refine slc_ok (by simp) (by simp) (by simp; omega) ?_
    have hr2 := RdS.cut (l := 0) (m := 12) hl (by omega) (by omega)
    show headgatetop_TopTorn_1 R (W.cut l k_api_Batch 0 12) ct w
    exact main _ _ w hr2 (by simp; omega) (fun b hb => hall b (by simpa using List.mem_of_mem_take hb)) h
  · exact main l bs w hl (by simp at g1; omega) hall h
end
end Go.Proofs.YtegjokkkdkaphaaGreatDoor
