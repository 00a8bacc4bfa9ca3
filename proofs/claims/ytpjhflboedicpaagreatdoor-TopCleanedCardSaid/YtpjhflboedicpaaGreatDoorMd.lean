/- Contracts of functions of the program, proved on their short texts. No condition. -/
import Derived.Test.YtpjhflboedicpaaGreatDoorMc
set_option linter.unusedVariables false
set_option linter.unusedSimpArgs false
namespace Go.Proofs.YtpjhflboedicpaaGreatDoor
open Go Go.W
set_option maxRecDepth 100000
def gokB (g : zT0) : Bool := decide (1 ≤ g.1 ∧ g.1 ≤ 1048576 ∧ 1 ≤ g.2.1 ∧ g.2.1 ≤ g.1 ∧ g.1 % g.2.1 = 0 ∧ g.1 / g.2.1 ≤ 8 ∧ 0 ≤ g.2.2.1 ∧ g.2.2.1 ≤ 1048576)
theorem gok {g : zT0} (h : gokB g = true) : 1 ≤ g.1 ∧ g.1 ≤ 1048576 ∧ 1 ≤ g.2.1 ∧ g.2.1 ≤ g.1 ∧ g.1 % g.2.1 = 0 ∧ g.1 / g.2.1 ≤ 8 ∧ 0 ≤ g.2.2.1 ∧ g.2.2.1 ≤ 1048576 := by simpa [gokB] using h
def closedB (g : zT0) (start mark : Int) : Bool := decide (0 ≤ mark ∧ start ≤ mark - g.1 - g.2.2.1)
def startAt (g : zT0) (t : Int) (k : Nat) : Int := t - t % g.2.1 - g.1 + g.2.1 * ((k : Int) + 1)
def startsM (g : zT0) (t : Int) (n : Nat) : List Int := ((List.range n).map (startAt g t)).filter fun s => decide (0 ≤ s)
section
variable {o : Fix} {Γ Δ : List Assn} {w : World}
theorem gCheck_ok {R : Int → World → Prop} {g : zT0} (hg : gokB g = true) (h : SH o Γ w) (hR : ∀ w', SH o Γ w' → R 0 w') : mcall P n_zf22 [KV zk0 g] I R w := by
  obtain ⟨g1, g2, g3, g4, g5, g6, g7, g8⟩ := gok hg
  obtain ⟨sz, hop, late, _⟩ := g
  dsimp only at g1 g2 g3 g4 g5 g6 g7 g8
  apply zf22_call
  refine bx_ok h fun a w h => ?_
  refine ld_fld0 h ?_
  refine mif_ok (fun g => ?_) (fun _ => ?_)
  · simp at g; omega
  refine ld_fld0 h ?_
  refine mif_ok (fun g => ?_) (fun _ => ?_)
  · simp at g; omega
  refine ld_fld h ?_
  refine mif_ok (fun g => ?_) (fun _ => ?_)
  · simp at g; omega
  refine ld_fld h ?_
  refine ld_fld0 h ?_
  refine mif_ok (fun g => ?_) (fun _ => ?_)
  · simp at g; omega
  refine ld_fld0 h ?_
  refine ld_fld h ?_
  refine mdz_ok (by dsimp only; omega) ?_
  refine mif_ok (fun g => ?_) (fun _ => ?_)
  · rw [Int.tmod_eq_emod_of_nonneg (by dsimp only; omega)] at g; simp [g5] at g
  refine ld_fld0 h ?_
  refine ld_fld h ?_
  refine mdz_ok (by dsimp only; omega) ?_
  have hq : 0 ≤ sz / hop := Int.ediv_nonneg (by omega) (by omega)
  refine mif_ok (fun g => ?_) (fun _ => ?_)
  · dsimp only at g
    rw [Int.tdiv_eq_ediv_of_nonneg (by omega), w64_of (by omega) (by omega)] at g; simp at g; omega
  refine ld_fld h ?_
  refine mif_ok (fun g => ?_) (fun _ => ?_)
  · simp at g; omega
  refine ld_fld h ?_
  refine mif_ok (fun g => ?_) (fun _ => ?_)
  · simp at g; omega
  exact hR w h.drop
theorem Closed_ok {R : Bool → World → Prop} {g : zT0} {start mark : Int} (hg : gokB g = true) (hm : mark ≤ 1099511627776) (h : SH o Γ w) (hR : ∀ w', SH o Γ w' → R (closedB g start mark) w') :
    mcall P n_zfw [KV zk0 g, .int .i64 start, .int .i64 mark] .b R w := by
  obtain ⟨g1, g2, g3, g4, g5, g6, g7, g8⟩ := gok hg
  apply zfw_call
  refine bx_ok h fun a w h => ?_
  refine ld_var h ?_
  refine gCheck_ok hg h fun w h => ?_
  refine mif_ok (fun _ => ?_) (fun gg => ?_)
  · refine mif_ok (fun gg => ?_) (fun gg => ?_)
    · have hm0 : 0 ≤ mark := by simpa using gg
      refine ld_fld0 h ?_
      refine ld_fld h ?_
      rw [w64_of (x := mark - g.1) (by omega) (by omega), w64_of (by omega) (by omega)]
      have e : closedB g start mark = decide (start ≤ mark - g.1 - g.2.2.1) := by unfold closedB; rw [decide_eq_decide]; omega
      have := hR w h.drop
      rw [e] at this
      exact this
    · have hm0 : ¬ 0 ≤ mark := by simpa using gg
      have e : closedB g start mark = false := by unfold closedB; rw [decide_eq_false_iff_not]; omega
      have := hR w h.drop
      rwa [e] at this
  · cases gg
theorem Starts_ok {R : (Sl × Int × Unit) → World → Prop} {g : zT0} {t : Int} (hg : gokB g = true) (ht : 0 ≤ t ∧ t ≤ 1099511627776) (h : SH o Γ w)
    (hR : ∀ l w', SH o (slO l zt1 I (startsM g t (g.1 / g.2.1).toNat) :: Γ) w' → R (l, 0, ()) w') : mcall P n_zft [KV zk0 g, .int .i64 t] (.tup [.sl, I]) R w := by
  obtain ⟨g1, g2, g3, g4, g5, g6, g7, g8⟩ := gok hg
  obtain ⟨sz, hop, late, _⟩ := g
  dsimp only at g1 g2 g3 g4 g5 g6 g7 g8 hR
  have hq : 0 ≤ sz / hop := Int.ediv_nonneg (by omega) (by omega)
  have hr := Int.emod_nonneg t (show hop ≠ 0 by omega)
  have hr2 := Int.emod_lt_of_pos t (show 0 < hop by omega)
  apply zft_call
  refine bx_ok h fun a w h => ?_
  refine ld_var h ?_
  refine gCheck_ok hg h fun w h => ?_
  refine mif_ok (fun g => ?_) (fun _ => ?_)
  · cases g
  refine mif_ok (fun g => ?_) (fun _ => ?_)
  · simp at g; omega
  refine mif_ok (fun g => ?_) (fun _ => ?_)
  · simp at g; omega
  unfold zft_1 zft_3
  refine ld_fld0 h ?_
  refine ld_fld h ?_
  refine mdz_ok (by dsimp only; omega) ?_
  unfold zft_4
  dsimp only
  rw [Int.tdiv_eq_ediv_of_nonneg (by omega), w64_of (by omega) (by omega)]
  have h := h.nilS zt1 I
  refine loop_ok (fun (i : Nat) s w => ∃ l, s = (l, (i : Int), ()) ∧ (i : Int) ≤ sz / hop ∧ SH o (slO l zt1 I (startsM (sz, hop, late, ()) t i) :: vr a zt5 zk0 (sz, hop, late, ()) :: Γ) w) (fun i => (sz / hop).toNat - i) 0 ⟨_, rfl, by omega, h⟩ ?_
  clear h
  rintro i _ w cont ⟨l, rfl, hi, h⟩ hc
  unfold zft_5
  dsimp only
  have hs : startsM (sz, hop, late, ()) t (i + 1) = startsM (sz, hop, late, ()) t i ++ (if 0 ≤ startAt (sz, hop, late, ()) t i then [startAt (sz, hop, late, ()) t i] else []) := by
    unfold startsM
    rw [List.range_succ, List.map_append, List.filter_append]
    congr 1
    simp only [List.map_cons, List.map_nil, List.filter_cons, List.filter_nil, decide_eq_true_eq]
  refine mif_ok (fun g => ?_) (fun g => ?_)
  · have hlt : (i : Int) < sz / hop := by simpa using g
    have hmul : hop * ((i : Int) + 1) ≤ hop * 8 := Int.mul_le_mul_of_nonneg_left (by omega) (by omega)
    have hmul0 : 0 ≤ hop * ((i : Int) + 1) := Int.mul_nonneg (by omega) (by omega)
    have hlen : (startsM (sz, hop, late, ()) t i).length ≤ i := by
      unfold startsM; exact Nat.le_trans (List.length_filter_le ..) (by simp)
    refine mdraw_ok h fun w h => ?_
    refine ld_fld (a := a) h ?_
    refine mdz_ok (by dsimp only; omega) ?_
    refine ld_fld0 (a := a) h ?_
    refine ld_fld (a := a) h ?_
    dsimp only
    have e : w64 (w64 (w64 (t - t.tmod hop) - sz) + w64 (hop * w64 ((i : Int) + 1))) = startAt (sz, hop, late, ()) t i := by
      rw [Int.tmod_eq_emod_of_nonneg (by omega), w64_of (x := (i : Int) + 1) (by omega) (by omega), w64_of (x := t - t % hop) (by omega) (by omega), w64_of (x := t - t % hop - sz) (by omega) (by omega), w64_of (x := hop * ((i : Int) + 1)) (by omega) (by omega), w64_of (by omega) (by omega)]
      rfl
    rw [e]
    refine mif_ok (fun g => ?_) (fun g => ?_)
    · have g0 : 0 ≤ startAt (sz, hop, late, ()) t i := by simpa using g
      refine bsl_ok h fun u w h => ?_
      refine app_ok h (by simp; omega) (fun y _ => okV_plain rfl y) fun l2 w h => ?_
      unfold zft_6
      rw [w64_of (by omega) (by omega)]
      refine hc (i + 1) _ w (by omega) ⟨l2, rfl, by omega, ?_⟩
      rw [hs, if_pos g0]
      exact h.to
    · have g0 : ¬ 0 ≤ startAt (sz, hop, late, ()) t i := by simpa using g
      unfold zft_6
      rw [w64_of (by omega) (by omega)]
      refine hc (i + 1) _ w (by omega) ⟨l, rfl, by omega, ?_⟩
      rw [hs, if_neg g0, List.append_nil]
      exact h
  · have hi' : i = (sz / hop).toNat := by simp at g; omega
    subst hi'
    unfold zft_2
    exact hR l w h.to
end
end Go.Proofs.YtpjhflboedicpaaGreatDoor
namespace Go.Proofs.YtpjhflboedicpaaGreatDoor
open Go Go.W
set_option maxRecDepth 100000
section
variable {o : Fix} {Γ Δ : List Assn} {w : World}
theorem rgMay_ok {R : Bool → World → Prop} {g : zT0} (h : SH o Γ w) (hR : ∀ w', SH o Γ w' → R (gokB g) w') : mcall P n_zfh [KV zk0 g] .b R w := by
  obtain ⟨sz, hop, late, _⟩ := g
  have no : ¬ (1 ≤ sz ∧ sz ≤ 1048576 ∧ 1 ≤ hop ∧ hop ≤ sz ∧ 0 ≤ late ∧ late ≤ 1048576) → ∀ w', SH o Γ w' → R false w' := fun hn w' h' => by
    have := hR w' h'
    have e : gokB (sz, hop, late, ()) = false := by unfold gokB; rw [decide_eq_false_iff_not]; dsimp only; omega
    rwa [e] at this
  apply zfh_call
  refine bx_ok h fun a w h => ?_
  refine ld_fld0 h ?_
  refine mif_ok (fun q => ?_) (fun q1 => ?_)
  · exact no (by simp at q; omega) w h.drop
  refine ld_fld0 h ?_
  refine mif_ok (fun q => ?_) (fun q2 => ?_)
  · exact no (by simp at q; omega) w h.drop
  refine ld_fld h ?_
  refine mif_ok (fun q => ?_) (fun q3 => ?_)
  · exact no (by simp at q; omega) w h.drop
  refine ld_fld h ?_
  refine ld_fld0 h ?_
  refine mif_ok (fun q => ?_) (fun q4 => ?_)
  · exact no (by simp at q; omega) w h.drop
  refine ld_fld h ?_
  refine mif_ok (fun q => ?_) (fun q5 => ?_)
  · exact no (by simp at q; omega) w h.drop
  refine ld_fld h ?_
  refine mif_ok (fun q => ?_) (fun q6 => ?_)
  · exact no (by simp at q; omega) w h.drop
  simp at q1 q2 q3 q4 q5 q6
  unfold zfh_1 zfh_3 zfh_4
  refine loop_ok (fun (k : Nat) s w => s = ((k : Int), ()) ∧ 1 ≤ k ∧ k ≤ 9 ∧ (∀ j : Nat, 1 ≤ j → j < k → (j : Int) * hop ≠ sz) ∧ SH o (vr a zt5 zk0 (sz, hop, late, ()) :: Γ) w) (fun k => 9 - k) 1 ⟨rfl, by omega, by omega, fun j h1 h2 => by omega, h⟩ ?_
  clear h
  rintro k _ w cont ⟨rfl, hk1, hk9, hno, h⟩ hc
  unfold zfh_5
  dsimp only
  refine mif_ok (fun q => ?_) (fun q => ?_)
  · have hk8 : k ≤ 8 := by simp at q; omega
    refine ld_fld h ?_
    refine ld_fld0 h ?_
    dsimp only
    have hmul : (k : Int) * hop ≤ 8 * hop := Int.mul_le_mul_of_nonneg_right (by omega) (by omega)
    have hmul0 : 0 ≤ (k : Int) * hop := Int.mul_nonneg (by omega) (by omega)
    rw [w64_of (by omega) (by omega)]
    refine mif_ok (fun q => ?_) (fun q => ?_)
    · have e : (k : Int) * hop = sz := by simpa using q
      have hm : sz % hop = 0 := by rw [← e]; exact Int.mul_emod_left ..
      have hd : sz / hop = k := by rw [← e]; exact Int.mul_ediv_cancel _ (by omega)
      have := hR w h.drop
      have e2 : gokB (sz, hop, late, ()) = true := by unfold gokB; rw [decide_eq_true_iff]; dsimp only; exact ⟨q1, q2, q3, q4, hm, by omega, q5, q6⟩
      rwa [e2] at this
    · have ne : ¬ (k : Int) * hop = sz := by simpa using q
      rw [w64_of (by omega) (by omega)]
      refine hc (k + 1) _ w (by omega) ⟨rfl, by omega, by omega, fun j h1 h2 => ?_, h⟩
      by_cases hj : j = k
      · subst hj; exact ne
      · exact hno j h1 (by omega)
  · have hk : k = 9 := by simp at q; omega
    subst hk
    unfold zfh_2
    have := hR w h.drop
    have e : gokB (sz, hop, late, ()) = false := by
      unfold gokB; rw [decide_eq_false_iff_not]; dsimp only
      rintro ⟨_, _, _, _, hm, hd, _, _⟩
      have hq : 0 ≤ sz / hop := Int.ediv_nonneg (by omega) (by omega)
      have he := Int.mul_ediv_add_emod sz hop
      rw [hm, Int.add_zero] at he
      have hpos : 1 ≤ sz / hop := by
        rcases Int.lt_or_le (sz / hop) 1 with hlt | hge
        · have : sz / hop = 0 := by omega
          rw [this, Int.mul_zero] at he; omega
        · exact hge
      refine hno (sz / hop).toNat (by omega) (by omega) ?_
      rw [Int.toNat_of_nonneg hq, Int.mul_comm]; exact he
    rwa [e] at this
theorem rgClosed_ok {R : Bool → World → Prop} {g : zT0} {start mark : Int} (hg : gokB g = true) (hm : mark ≤ 1099511627776) (h : SH o Γ w) (hR : ∀ w', SH o Γ w' → R (closedB g start mark) w') :
    mcall P n_zfj [KV zk0 g, .int .i64 start, .int .i64 mark] .b R w := by
  obtain ⟨g1, g2, g3, g4, g5, g6, g7, g8⟩ := gok hg
  apply zfj_call
  refine bx_ok h fun a w h => ?_
  refine ld_var h ?_
  refine rgMay_ok h fun w h => ?_
  rw [hg]
  refine mif_ok (fun _ => ?_) (fun q => ?_)
  · refine mif_ok (fun q => ?_) (fun q => ?_)
    · have hm0 : 0 ≤ mark := by simpa using q
      refine ld_fld0 h ?_
      refine ld_fld h ?_
      rw [w64_of (x := g.1 + g.2.2.1) (by omega) (by omega), w64_of (by omega) (by omega)]
      have e : closedB g start mark = decide (start ≤ mark - (g.1 + g.2.2.1)) := by unfold closedB; rw [decide_eq_decide]; omega
      have := hR w h.drop
      rw [e] at this
      exact this
    · have hm0 : ¬ 0 ≤ mark := by simpa using q
      have e : closedB g start mark = false := by unfold closedB; rw [decide_eq_false_iff_not]; omega
      have := hR w h.drop
      rwa [e] at this
  · cases q
theorem rgStarts_any {R : (Sl × Int × Unit) → World → Prop} {g : zT0} {t : Int} (hg : gokB g = true) (ht : 0 ≤ t ∧ t ≤ 1099511627776) (h : SH o Γ w)
    (hR : ∀ l ls w', ls.length ≤ 1048576 → SH o (slO l zt1 I ls :: Γ) w' → R (l, 0, ()) w') : mcall P n_zf11 [KV zk0 g, .int .i64 t] (.tup [.sl, I]) R w := by
  obtain ⟨g1, g2, g3, g4, g5, g6, g7, g8⟩ := gok hg
  obtain ⟨sz, hop, late, _⟩ := g
  dsimp only at g1 g2 g3 g4 g5 g6 g7 g8
  apply zf11_call
  refine bx_ok h fun a w h => ?_
  refine ld_var h ?_
  refine rgMay_ok h fun w h => ?_
  rw [hg]
  refine mif_ok (fun q => ?_) (fun _ => ?_)
  · cases q
  refine mif_ok (fun q => ?_) (fun _ => ?_)
  · simp at q; omega
  refine mif_ok (fun q => ?_) (fun _ => ?_)
  · simp at q; omega
  unfold zf11_1 zf11_8
  refine mdraw_ok h fun w h => ?_
  refine ld_fld h ?_
  refine mdz_ok (by dsimp only; omega) ?_
  refine ld_fld h ?_
  unfold zf11_9
  dsimp only
  have hq : 0 ≤ t / hop := Int.ediv_nonneg (by omega) (by omega)
  have he := Int.mul_ediv_add_emod t hop
  have hr := Int.emod_nonneg t (show hop ≠ 0 by omega)
  have hr2 := Int.emod_lt_of_pos t (show 0 < hop by omega)
  have hqt : t / hop ≤ t := Int.ediv_le_self _ (by omega)
  have hmc : t / hop * hop = hop * (t / hop) := Int.mul_comm ..
  rw [Int.tdiv_eq_ediv_of_nonneg (by omega), w64_of (x := t / hop) (by omega) (by omega), w64_of (x := t / hop * hop) (by omega) (by omega)]
  have h := h.nilS zt1 I
  refine loop_ok (fun (s : Int × List Int) st w => ∃ l, st = (l, s.1, ()) ∧ s.1 ≤ t ∧ -1048576 ≤ s.1 ∧ (s.2.length : Int) ≤ t - s.1 ∧ s.2.length ≤ 1048576 ∧ SH o (slO l zt1 I s.2 :: vr a zt5 zk0 (sz, hop, late, ()) :: Γ) w) (fun s => (s.1 + 1048577).toNat) (t / hop * hop, []) ⟨_, rfl, by dsimp only; omega, by dsimp only; omega, by simp; omega, by simp, h⟩ ?_
  clear h
  rintro ⟨s, ls⟩ _ w cont ⟨l, rfl, h1, h2, h3, h4, h⟩ hc
  simp only at h1 h2 h3 h4 h hc
  unfold zf11_10
  dsimp only
  have done : ∀ w, SH o (slO l zt1 I ls :: vr a zt5 zk0 (sz, hop, late, ()) :: Γ) w → zf11_2 R l w := by
    intro w h
    unfold zf11_2 zf11_3 zf11_5 zf11_6
    have hlen := h.len (s := l)
    rw [w64_of (by omega) (by omega)]
    have h := h.nilS zt1 I
    refine loop_ok (fun (i : Nat) st w => ∃ l2 ls2, st = (l2, (i : Int) - 1, ()) ∧ i ≤ ls.length ∧ ls2.length + i = ls.length ∧ SH o (slO l2 zt1 I ls2 :: slO l zt1 I ls :: vr a zt5 zk0 (sz, hop, late, ()) :: Γ) w) (fun i => i) ls.length ⟨_, [], by rw [hlen], by omega, by simp, h⟩ ?_
    clear h
    rintro i _ w cont ⟨l2, ls2, rfl, hi, hl2, h⟩ hc
    unfold zf11_7
    dsimp only
    refine mif_ok (fun q => ?_) (fun q => ?_)
    · have hi0 : 1 ≤ i := by simp at q; omega
      refine ixa_ok (s := l) h (by omega) (by omega) fun e ea => ?_
      obtain ⟨y, hy⟩ : ∃ y, ls[((i : Int) - 1).toNat]? = some y := ⟨_, List.getElem?_eq_getElem (by omega)⟩
      refine ld_el ea h hy ?_
      refine bsl_ok h fun u w h => ?_
      refine app_ok h (by simp; omega) (fun y _ => okV_plain rfl y) fun l3 w h => ?_
      rw [w64_of (by omega) (by omega)]
      refine hc (i - 1) _ w (by omega) ⟨l3, ls2 ++ [y], by congr 2; omega, by omega, ?_, h.to⟩
      simp; omega
    · unfold zf11_4
      exact hR l2 ls2 w (by omega) h.to
  refine mif_ok (fun q => ?_) (fun q => ?_)
  · have hs0 : 0 ≤ s := by simpa using q
    refine ld_fld0 (a := a) h ?_
    dsimp only
    rw [w64_of (x := s + sz) (by omega) (by omega)]
    refine mif_ok (fun q => ?_) (fun q => ?_)
    · have hst : s + sz > t := by simpa using q
      refine bsl_ok h fun u w h => ?_
      refine app_ok h (by simp; omega) (fun y _ => okV_plain rfl y) fun l2 w h => ?_
      refine ld_fld (a := a) h ?_
      dsimp only
      rw [w64_of (by omega) (by omega)]
      refine hc (s - hop, ls ++ [s]) _ w (by simp only; omega) ⟨l2, rfl, by simp only; omega, by simp only; omega, by simp; omega, by simp; omega, h.to⟩
    · exact done w h
  · exact done w h
end
end Go.Proofs.YtpjhflboedicpaaGreatDoor
namespace Go.Proofs.YtpjhflboedicpaaGreatDoor
open Go Go.W
set_option maxRecDepth 100000
def turnV : Nat → Value
  | 0 => .complex .f64 4607182418800017408 0
  | 1 => .complex .f64 0 4607182418800017408
  | 2 => .complex .f64 13830554455654793216 0
  | _ => .complex .f64 9223372036854775808 13830554455654793216
def turnR : Nat → Int
  | 0 => 1 | 1 => 0 | 2 => -1 | _ => 0
def turnI : Nat → Int
  | 0 => 0 | 1 => 1 | 2 => 0 | _ => -1
def ci : Value := .complex .f64 0 4607182418800017408
theorem turn_mul0 (w : World) : (binOp .mul zt1a (turnV 0) ci).run P w = .ok (turnV 1) w := by kernel_rfl
theorem turn_mul1 (w : World) : (binOp .mul zt1a (turnV 1) ci).run P w = .ok (turnV 2) w := by kernel_rfl
theorem turn_mul2 (w : World) : (binOp .mul zt1a (turnV 2) ci).run P w = .ok (turnV 3) w := by kernel_rfl
def turnRe : Nat → Value
  | 0 => .float .f64 4607182418800017408 | 1 => .float .f64 0 | 2 => .float .f64 13830554455654793216 | _ => .float .f64 9223372036854775808
def turnIm : Nat → Value
  | 0 => .float .f64 0 | 1 => .float .f64 4607182418800017408 | 2 => .float .f64 0 | _ => .float .f64 13830554455654793216
theorem re_run (w : World) : ∀ q : Nat, q < 4 → (Builtin.real_ #[zt1a] zt1b #[turnV q]).run P w = .ok (turnRe q) w
  | 0, _ => by kernel_rfl
  | 1, _ => by kernel_rfl
  | 2, _ => by kernel_rfl
  | 3, _ => by kernel_rfl
  | q + 4, h => by omega
theorem im_run (w : World) : ∀ q : Nat, q < 4 → (Builtin.imag_ #[zt1a] zt1b #[turnV q]).run P w = .ok (turnIm q) w
  | 0, _ => by kernel_rfl
  | 1, _ => by kernel_rfl
  | 2, _ => by kernel_rfl
  | 3, _ => by kernel_rfl
  | q + 4, h => by omega
theorem reI_run (w : World) : ∀ q : Nat, q < 4 → (convert zt1b zt1 (turnRe q)).run P w = .ok (.int .i64 (turnR q)) w
  | 0, _ => by kernel_rfl
  | 1, _ => by kernel_rfl
  | 2, _ => by kernel_rfl
  | 3, _ => by kernel_rfl
  | q + 4, h => by omega
theorem imI_run (w : World) : ∀ q : Nat, q < 4 → (convert zt1b zt1 (turnIm q)).run P w = .ok (.int .i64 (turnI q)) w
  | 0, _ => by kernel_rfl
  | 1, _ => by kernel_rfl
  | 2, _ => by kernel_rfl
  | 3, _ => by kernel_rfl
  | q + 4, h => by omega
theorem iand3 (v : Int) : ∃ n : Nat, n < 4 ∧ iand .i64 v 3 = (n : Int) := by
  refine ⟨(BitVec.ofInt 64 v &&& 3#64).toNat, ?_, ?_⟩
  · rw [BitVec.toNat_and]; exact Nat.lt_of_le_of_lt Nat.and_le_right (by decide)
  · have hlt : (BitVec.ofInt 64 v &&& 3#64).toNat < 4 := by rw [BitVec.toNat_and]; exact Nat.lt_of_le_of_lt Nat.and_le_right (by decide)
    show IntKind.i64.wrap (((BitVec.ofInt 64 v &&& 3#64).toNat : Nat) : Int) = _
    exact w64_of (by omega) (by omega)
section
variable {o : Fix} {Γ Δ : List Assn} {w : World}
theorem turn_ok {R : Value → World → Prop} {v : Int} (h : SH o Γ w) (hR : ∀ q : Nat, q < 4 → ∀ w', SH o Γ w' → R (turnV q) w') : mcall P n_zf3p [.int .i64 v] .v R w := by
  obtain ⟨n, hn, hv⟩ := iand3 v
  refine mcall_marks zf3p_get (c := zf3p_B) (n := 12) (by kernel_rfl) (by kernel_rfl) (by kernel_rfl) (by kernel_rfl) ?_
  obtain ⟨F, hF⟩ : ∃ F : KTs (kds [(0, I), (3, .v)]) → World → Prop, F = fun x w => x = (v, turnV 0, ()) ∧ SH o Γ w := ⟨_, rfl⟩
  refine pm_cut (l := [(0, I), (3, .v)]) (F := F) (c' := Code.at zf3p_B [.snd, .snd]) (T := F (v, turnV 0, ()) w) hmix 2 (by simp [argE]) (by kernel_rfl) (by kernel_rfl) ?_ (by rw [hF]; exact ⟨rfl, h⟩)
  clear h
  intro x w h
  rw [hF] at h
  obtain ⟨rfl, h⟩ := h
  clear hF F
  obtain ⟨Kf, hKf⟩ : ∃ Kf : KTs (kds [(3, .v)]) → List Nat → World → Prop, Kf = fun x ds w => (∃ q, q < 4 ∧ x = (turnV q, ())) ∧ ds = [] ∧ SH o Γ w := ⟨_, rfl⟩
  refine pm_seq (a := Code.at zf3p_B [.snd, .snd, .fst]) (b := Code.at zf3p_B [.snd, .snd, .snd]) (by kernel_rfl) (K := fun env ds w => getE env [(3, .v)] (fun x w => Kf x ds w) w) ?_ ?_
  rotate_left
  · intro env ds w hl h0
    obtain ⟨x, h, hle⟩ := getE_elim hl h0
    clear h0
    refine WPM.le ?_ hle
    rw [hKf] at h
    obtain ⟨⟨q, hq, rfl⟩, rfl, h⟩ := h
    exact pm_code hmix (T := R (turnV q) w) (by kernel_rfl) (hR q hq w h)
  obtain ⟨F, hF⟩ : ∃ F : KTs (kds [(3, .v), (5, I), (6, I)]) → World → Prop, F = fun x w => x = (turnV 0, (n : Int), 0, ()) ∧ SH o Γ w := ⟨_, rfl⟩
  refine pm_cut (l := [(3, .v), (5, I), (6, I)]) (F := F) (c' := Code.at zf3p_B [.snd, .snd, .fst, .snd]) (T := F (turnV 0, iand .i64 v 3, 0, ()) w) hmix 1 (mkE_len ..) (by kernel_rfl) (by kernel_rfl) ?_ (by rw [hF, hv]; exact ⟨rfl, h⟩)
  clear h
  intro x w h
  rw [hF] at h
  obtain ⟨rfl, h⟩ := h
  clear hF F
  refine pm_block (id := 0) (c := Code.at zf3p_B [.snd, .snd, .fst, .snd, .blk]) (by kernel_rfl) ?_
  have hloop : Code.at zf3p_B [.snd, .snd, .fst, .snd, .blk] = .loop (Code.at zf3p_B [.snd, .snd, .fst, .snd, .blk, .blk]) := by kernel_rfl
  rw [hloop]
  obtain ⟨Jf, hJf⟩ : ∃ Jf : Nat → KTs (kds [(3, .v), (5, I), (6, I)]) → List Nat → World → Prop, Jf = fun i x ds w => i ≤ n ∧ x = (turnV i, (n : Int), (i : Int), ()) ∧ ds = [] ∧ SH o Γ w := ⟨_, rfl⟩
  refine WPM.loop (fun i env ds w => getE env [(3, .v), (5, I), (6, I)] (fun x w => Jf i x ds w) w) (fun i => n - i) (s0 := 0) ?_ ?_
  · refine Eq.mp (α := Jf 0 (turnV 0, (n : Int), 0, ()) [] w) (by kernel_rfl) ?_
    rw [hJf]
    exact ⟨by omega, rfl, rfl, h⟩
  clear h
  intro i env ds w hl h0
  obtain ⟨x, hJ, hle⟩ := getE_elim hl h0
  clear h0
  refine WPM.le ?_ hle
  rw [hJf] at hJ
  obtain ⟨hin, rfl, rfl, h⟩ := hJ
  have hi4 : i = 0 ∨ i = 1 ∨ i = 2 ∨ i = 3 := by omega
  rcases hi4 with rfl | rfl | rfl | rfl
  · -- 0
    refine pm_code hmix (T := mif (decide ((0 : Int) < (n : Int))) (mrd P (binOp .mul zt1a (turnV 0) ci) .v fun x w => ∃ s', n - s' < n - 0 ∧ Jf s' (x, (n : Int), w64 ((0 : Int) + 1), ()) [] w) (Kf (turnV 0, ()) []) w) (by kernel_rfl) ?_
    refine mif_ok (fun g => ?_) (fun g => ?_)
    · have hlt : 0 < n := by simp at g; omega
      refine ⟨turnV 1, turn_mul0 w, 1, by omega, ?_⟩
      rw [hJf]
      exact ⟨by omega, rfl, rfl, h⟩
    · rw [hKf]
      exact ⟨⟨0, by omega, rfl⟩, rfl, h⟩
  · -- 1
    refine pm_code hmix (T := mif (decide ((1 : Int) < (n : Int))) (mrd P (binOp .mul zt1a (turnV 1) ci) .v fun x w => ∃ s', n - s' < n - 1 ∧ Jf s' (x, (n : Int), w64 ((1 : Int) + 1), ()) [] w) (Kf (turnV 1, ()) []) w) (by kernel_rfl) ?_
    refine mif_ok (fun g => ?_) (fun g => ?_)
    · have hlt : 1 < n := by simp at g; omega
      refine ⟨turnV 2, turn_mul1 w, 2, by omega, ?_⟩
      rw [hJf]
      exact ⟨by omega, rfl, rfl, h⟩
    · rw [hKf]
      exact ⟨⟨1, by omega, rfl⟩, rfl, h⟩
  · -- 2
    refine pm_code hmix (T := mif (decide ((2 : Int) < (n : Int))) (mrd P (binOp .mul zt1a (turnV 2) ci) .v fun x w => ∃ s', n - s' < n - 2 ∧ Jf s' (x, (n : Int), w64 ((2 : Int) + 1), ()) [] w) (Kf (turnV 2, ()) []) w) (by kernel_rfl) ?_
    refine mif_ok (fun g => ?_) (fun g => ?_)
    · have hlt : 2 < n := by simp at g; omega
      refine ⟨turnV 3, turn_mul2 w, 3, by omega, ?_⟩
      rw [hJf]
      exact ⟨by omega, rfl, rfl, h⟩
    · rw [hKf]
      exact ⟨⟨2, by omega, rfl⟩, rfl, h⟩
  · -- 3
    refine pm_code hmix (T := mif (decide ((3 : Int) < (n : Int))) (mrd P (binOp .mul zt1a (turnV 3) ci) .v fun x w => ∃ s', n - s' < n - 3 ∧ Jf s' (x, (n : Int), w64 ((3 : Int) + 1), ()) [] w) (Kf (turnV 3, ()) []) w) (by kernel_rfl) ?_
    refine mif_ok (fun g => ?_) (fun g => ?_)
    · have hlt : 3 < n := by simp at g; omega
      omega
    · rw [hKf]
      exact ⟨⟨3, by omega, rfl⟩, rfl, h⟩
end
end Go.Proofs.YtpjhflboedicpaaGreatDoor
namespace Go.Proofs.YtpjhflboedicpaaGreatDoor
open Go Go.W
set_option maxRecDepth 100000
structure HistOk (c h0 h1 h2 h3 : Int) : Prop where
  p0 : 0 ≤ h0
  p1 : 0 ≤ h1
  p2 : 0 ≤ h2
  p3 : 0 ≤ h3
  s : h0 + h1 + h2 + h3 = c
structure TurnsOk (c re im : Int) : Prop where
  t0 : re + im ≤ c
  t1 : re - im ≤ c
  t2 : im - re ≤ c
  t3 : 0 - re - im ≤ c
structure OkAg (a : Ag) : Prop where
  n : 1 ≤ a.1 ∧ a.1 ≤ 1099511627776
  sum : I64 a.2.1
  mn : I64 a.2.2.1
  mx : I64 a.2.2.2.1
  le : a.2.2.1 ≤ a.2.2.2.1
  hist : HistOk a.1 a.2.2.2.2.1.1 a.2.2.2.2.1.2.1 a.2.2.2.2.1.2.2.1 a.2.2.2.2.1.2.2.2.1
  turns : TurnsOk a.1 a.2.2.2.2.2.1 a.2.2.2.2.2.2.1
def zeroA : Ag := (0, 0, 0, 0, (0, 0, 0, 0, ()), 0, 0, ())
def sortM (v : Int) : Nat := if v < 0 then 0 else if v < 10 then 1 else if v < 100 then 2 else 3
theorem sortM_lt (v : Int) : sortM v < 4 := by unfold sortM; split <;> (try split) <;> (try split) <;> omega
section
variable {o : Fix} {Γ Δ : List Assn} {w : World}
theorem ixa_fld {t te ta : TypeId} {k k0 : Kd} {x : KT k0} {n m q : Nat} {a : Addr} {i : Int} {K : Addr → World → Prop} (h : SH o Γ w) [hr : RdV a ta k0 x Γ] [ht : TyD P t (.array n te)] [hk : TyK P te k] (hw : wd k = 1) (h0 : 0 ≤ i) (h1 : i < n) (hq : (q : Int) = m + i)
    (hK : K (ad a q) w) : ixa P t (.pointer (some (ad a m))) i K w := by
  obtain ⟨b, rfl, _⟩ := hr.rd h
  have hs : (ad ⟨b, 0, none⟩ m).spot = none := rfl
  refine ixa_arr (k := k) hs h0 h1 fun e ea => ?_
  obtain ⟨bb, off, e1, rfl⟩ := ea
  have e2 : some (ad ⟨b, 0, none⟩ m) = some (⟨bb, off, none⟩ : Addr) := e1
  have e3 : ad ⟨b, 0, none⟩ m = (⟨bb, off, none⟩ : Addr) := Option.some.inj e2
  have e4 : (⟨bb, off + i.toNat * wd k, none⟩ : Addr) = ad ⟨b, 0, none⟩ q := by
    unfold ad at e3 ⊢
    simp only [Addr.mk.injEq, and_true] at e3 ⊢
    obtain ⟨e5, e6⟩ := e3
    refine ⟨e5.symm, ?_⟩
    rw [hw]; omega
  rw [e4]; exact hK
theorem plus_small {R : Int → World → Prop} {a b : Int} (ha : -4611686018427387904 ≤ a ∧ a ≤ 4611686018427387904) (hb : -4611686018427387904 < b ∧ b < 4611686018427387904) (hR : R (a + b) w) : mcall P n_zf3n [.int .i64 a, .int .i64 b] I R w := by
  apply zf3n_call
  unfold zf3n_0
  rw [w64_of (by omega) (by omega)]
  refine mif_ok (fun g => ?_) (fun g => ?_)
  · refine mif_ok (fun g2 => ?_) (fun g2 => ?_)
    · simp at g g2; omega
    · refine mif_ok (fun g3 => ?_) (fun _ => hR)
      simp at g g3; omega
  · refine mif_ok (fun g2 => ?_) (fun _ => hR)
    refine mif_ok (fun g3 => ?_) (fun _ => hR)
    simp at g2 g3; omega
theorem plus_any {R : Int → World → Prop} {a b : Int} (hR : ∀ r, I64 r → R r w) : mcall P n_zf3n [.int .i64 a, .int .i64 b] I R w := by
  apply zf3n_call
  unfold zf3n_0
  have hw : I64 (w64 (a + b)) := by
    rw [w64_eq]
    have h1 := Int.emod_nonneg (a + b + 9223372036854775808) (show (18446744073709551616 : Int) ≠ 0 by omega)
    have h2 := Int.emod_lt_of_pos (a + b + 9223372036854775808) (show (0 : Int) < 18446744073709551616 by omega)
    exact ⟨by omega, by omega⟩
  have h1 : I64 9223372036854775807 := ⟨by omega, by omega⟩
  have h2 : I64 (-9223372036854775808) := ⟨by omega, by omega⟩
  refine mif_ok (fun g => ?_) (fun g => ?_)
  · refine mif_ok (fun g2 => hR _ h1) (fun g2 => ?_)
    refine mif_ok (fun g3 => ?_) (fun _ => hR _ hw)
    exact mif_ok (fun _ => hR _ h2) (fun _ => hR _ hw)
  · refine mif_ok (fun g3 => ?_) (fun _ => hR _ hw)
    exact mif_ok (fun _ => hR _ h2) (fun _ => hR _ hw)
theorem Sort_ok {R : Int → World → Prop} {v : Int} (hR : R (sortM v : Int) w) : mcall P n_zf3o [.int .i64 v] I R w := by
  apply zf3o_call
  unfold sortM at hR
  refine mif_ok (fun g => ?_) (fun g => ?_)
  · rw [if_pos (by simpa using g)] at hR; exact hR
  rw [if_neg (by simpa using g)] at hR
  refine mif_ok (fun g => ?_) (fun g => ?_)
  · rw [if_pos (by simpa using g)] at hR; exact hR
  rw [if_neg (by simpa using g)] at hR
  refine mif_ok (fun g => ?_) (fun g => ?_)
  · rw [if_pos (by simpa using g)] at hR; exact hR
  rw [if_neg (by simpa using g)] at hR
  exact hR
end
end Go.Proofs.YtpjhflboedicpaaGreatDoor
namespace Go.Proofs.YtpjhflboedicpaaGreatDoor
open Go Go.W
set_option maxRecDepth 100000
section
variable {o : Fix} {Γ Δ : List Assn} {w : World}
theorem hist_ok {K : World → Prop} {a : Addr} {q : Nat} {c s mn mx h0 h1 h2 h3 re im : Int} (hq : q < 4) (hh : HistOk c h0 h1 h2 h3) (hc : c ≤ 1099511627776) (h : SH o (vr a ztg zk5 (c + 1, s, mn, mx, (h0, h1, h2, h3, ()), re, im, ()) :: Γ) w)
    (hK : ∀ h0 h1 h2 h3 w', HistOk (c + 1) h0 h1 h2 h3 → SH o (vr a ztg zk5 (c + 1, s, mn, mx, (h0, h1, h2, h3, ()), re, im, ()) :: Γ) w' → K w') :
    (ixa P ztf (.pointer (some (ad a 4))) (q : Int) fun (x12 : Addr) => ld P zt1 x12 I fun (x13 : Int) => mcall P n_zf3n [(.int .i64 x13), (.int .i64 1)] I fun (x14 : Int) =>
      ixa P ztf (.pointer (some (ad a 4))) (q : Int) fun (x15 : Addr) => sto P zt1 x15 I x14 K) w := by
  obtain ⟨p0, p1, p2, p3, ps⟩ := hh
  have hq4 : q = 0 ∨ q = 1 ∨ q = 2 ∨ q = 3 := by omega
  rcases hq4 with rfl | rfl | rfl | rfl
  · refine ixa_fld (a := a) (k := I) (q := 4) h rfl (by omega) (by omega) (by omega) ?_
    refine ld_fld (n := 4) h ?_
    dsimp only
    refine plus_small ⟨by omega, by omega⟩ ⟨by omega, by omega⟩ ?_
    refine ixa_fld (a := a) (k := I) (q := 4) h rfl (by omega) (by omega) (by omega) ?_
    refine sto_fld (n := 4) h fun w h => ?_
    exact hK _ _ _ _ w ⟨by omega, p1, p2, p3, by omega⟩ h
  · refine ixa_fld (a := a) (k := I) (q := 5) h rfl (by omega) (by omega) (by omega) ?_
    refine ld_fld (n := 5) h ?_
    dsimp only
    refine plus_small ⟨by omega, by omega⟩ ⟨by omega, by omega⟩ ?_
    refine ixa_fld (a := a) (k := I) (q := 5) h rfl (by omega) (by omega) (by omega) ?_
    refine sto_fld (n := 5) h fun w h => ?_
    exact hK _ _ _ _ w ⟨p0, by omega, p2, p3, by omega⟩ h
  · refine ixa_fld (a := a) (k := I) (q := 6) h rfl (by omega) (by omega) (by omega) ?_
    refine ld_fld (n := 6) h ?_
    dsimp only
    refine plus_small ⟨by omega, by omega⟩ ⟨by omega, by omega⟩ ?_
    refine ixa_fld (a := a) (k := I) (q := 6) h rfl (by omega) (by omega) (by omega) ?_
    refine sto_fld (n := 6) h fun w h => ?_
    exact hK _ _ _ _ w ⟨p0, p1, by omega, p3, by omega⟩ h
  · refine ixa_fld (a := a) (k := I) (q := 7) h rfl (by omega) (by omega) (by omega) ?_
    refine ld_fld (n := 7) h ?_
    dsimp only
    refine plus_small ⟨by omega, by omega⟩ ⟨by omega, by omega⟩ ?_
    refine ixa_fld (a := a) (k := I) (q := 7) h rfl (by omega) (by omega) (by omega) ?_
    refine sto_fld (n := 7) h fun w h => ?_
    exact hK _ _ _ _ w ⟨p0, p1, p2, by omega, by omega⟩ h
theorem mrd_val {s : Sem Value} {v : Value} {K : Value → World → Prop} (hs : s.run P w = .ok v w) (hK : K v w) : mrd P s .v K w := ⟨v, hs, hK⟩
theorem mrd_int {s : Sem Value} {v : Int} {K : Int → World → Prop} (hs : s.run P w = .ok (.int .i64 v) w) (hK : K v w) : mrd P s I K w := ⟨v, hs, hK⟩
theorem Add1_ok {R : zT5 → World → Prop} {a b : Addr} {v c s mn0 mx0 h0 h1 h2 h3 re im : Int} {y : zT5} (hv : I64 v) (hc : 0 ≤ c ∧ c < 1099511627776) (hs : I64 s) (hmn : I64 mn0) (hmx : I64 mx0) (hh : HistOk c h0 h1 h2 h3) (ht : TurnsOk c re im)
    (h : SH o (vr a ztg zk5 (c, s, mn0, mx0, (h0, h1, h2, h3, ()), re, im, ()) :: vr b ztg zk5 y :: Γ) w) (hR : ∀ a' w', OkAg a' → a'.1 = c + 1 → SH o Γ w' → R a' w') : zf2b_1 R v a b w := by
  obtain ⟨t0, t1, t2, t3⟩ := ht
  unfold zf2b_1
  refine ld_fld0 (a := a) h ?_
  refine plus_small ⟨by dsimp only; omega, by dsimp only; omega⟩ ⟨by omega, by omega⟩ ?_
  refine sto_fld0 (a := a) h fun w h => ?_
  refine ld_fld (a := a) h ?_
  refine plus_any fun s' hs' => ?_
  refine sto_fld (a := a) h fun w h => ?_
  refine ld_fld (a := a) h ?_
  refine ld_fld (a := a) h ?_
  refine sto_fld (a := a) h fun w h => ?_
  refine sto_fld (a := a) h fun w h => ?_
  refine Sort_ok ?_
  refine Sort_ok ?_
  have h : SH o (vr a ztg zk5 (c + 1, s', mn mn0 v, mx mx0 v, (h0, h1, h2, h3, ()), re, im, ()) :: vr b ztg zk5 y :: Γ) w := h
  refine hist_ok (sortM_lt v) hh (by omega) h fun h0 h1 h2 h3 w hh h => ?_
  refine turn_ok h fun q hq w h => ?_
  refine mdraw_ok h fun w h => ?_
  refine ld_fld (a := a) h ?_
  refine mrd_val (re_run w q hq) ?_
  refine mrd_int (reI_run w q hq) ?_
  refine ld_fld (a := a) h ?_
  refine mrd_val (im_run w q hq) ?_
  refine mrd_int (imI_run w q hq) ?_
  have hq4 : (turnR q = 1 ∧ turnI q = 0) ∨ (turnR q = 0 ∧ turnI q = 1) ∨ (turnR q = -1 ∧ turnI q = 0) ∨ (turnR q = 0 ∧ turnI q = -1) := by
    have : q = 0 ∨ q = 1 ∨ q = 2 ∨ q = 3 := by omega
    rcases this with rfl | rfl | rfl | rfl <;> simp [turnR, turnI]
  dsimp only
  refine plus_small ⟨by omega, by omega⟩ ⟨by omega, by omega⟩ ?_
  refine ⟨imI_run w q hq, ?_⟩
  refine ⟨im_run w q hq, ?_⟩
  refine mst_fld (a := a) h ?_
  refine plus_small ⟨by omega, by omega⟩ ⟨by omega, by omega⟩ ?_
  refine sto_fld (a := a) h fun w h => ?_
  refine sto_fld (a := a) h fun w h => ?_
  refine ld_var (a := a) h ?_
  refine sto_var (a := b) h fun w h => ?_
  refine ld_var (a := b) h ?_
  have hmn' : mn mn0 v ≤ v ∧ I64 (mn mn0 v) := by obtain ⟨_, _⟩ := hmn; obtain ⟨_, _⟩ := hv; unfold mn I64; split <;> omega
  have hmx' : v ≤ mx mx0 v ∧ I64 (mx mx0 v) := by obtain ⟨_, _⟩ := hmx; obtain ⟨_, _⟩ := hv; unfold mx I64; split <;> omega
  refine hR _ w ⟨⟨by dsimp only; omega, by dsimp only; omega⟩, hs', hmn'.2, hmx'.2, by dsimp only; omega, hh, ⟨by dsimp only; omega, by dsimp only; omega, by dsimp only; omega, by dsimp only; omega⟩⟩ rfl ?_
  exact h.to
theorem Add_ok {R : zT5 → World → Prop} {a : zT5} {v : Int} (hv : I64 v) (ha : (OkAg a ∧ a.1 < 1099511627776) ∨ a = zeroA) (h : SH o Γ w) (hR : ∀ a' w', OkAg a' → a'.1 = a.1 + 1 → SH o Γ w' → R a' w') : mcall P n_zf2b [KV zk5 a, .int .i64 v] zk5 R w := by
  apply zf2b_call
  refine bx_ok h fun x w h => ?_
  refine alo_ok h fun y w h => ?_
  refine ld_fld0 (a := x) h ?_
  obtain ⟨c, s, mn0, mx0, ⟨h0, h1, h2, h3, _⟩, re, im, _⟩ := a
  have facts : (0 ≤ c ∧ c < 1099511627776) ∧ I64 s ∧ I64 mn0 ∧ I64 mx0 ∧ HistOk c h0 h1 h2 h3 ∧ TurnsOk c re im := by
    rcases ha with ⟨ha, hlt⟩ | ha
    · obtain ⟨n, g1, g2, g3, g4, g5, g6⟩ := ha
      dsimp only at n g1 g2 g3 g4 g5 g6 hlt
      exact ⟨⟨by omega, hlt⟩, g1, g2, g3, g5, g6⟩
    · simp only [zeroA, Prod.mk.injEq, and_true] at ha
      obtain ⟨rfl, rfl, rfl, rfl, ⟨rfl, rfl, rfl, rfl⟩, rfl, rfl⟩ := ha
      exact ⟨⟨by omega, by omega⟩, ⟨by omega, by omega⟩, ⟨by omega, by omega⟩, ⟨by omega, by omega⟩, ⟨by omega, by omega, by omega, by omega, by omega⟩, ⟨by omega, by omega, by omega, by omega⟩⟩
  obtain ⟨f1, f2, f3, f4, f5, f6⟩ := facts
  refine mif_ok (fun g => ?_) (fun g => ?_)
  · refine sto_fld (a := x) h fun w h => ?_
    refine sto_fld (a := x) h fun w h => ?_
    have h : SH o (vr y ztg zk5 (0, 0, 0, 0, (0, 0, 0, 0, ()), 0, 0, ()) :: vr x ztg zk5 (c, s, v, v, (h0, h1, h2, h3, ()), re, im, ()) :: Γ) w := h.to
    exact Add1_ok hv f1 f2 hv hv f5 f6 h.swap hR
  · have h : SH o (vr y ztg zk5 (0, 0, 0, 0, (0, 0, 0, 0, ()), 0, 0, ()) :: vr x ztg zk5 (c, s, mn0, mx0, (h0, h1, h2, h3, ()), re, im, ()) :: Γ) w := h
    exact Add1_ok hv f1 f2 f3 f4 f5 f6 h.swap hR
end
end Go.Proofs.YtpjhflboedicpaaGreatDoor
namespace Go.Proofs.YtpjhflboedicpaaGreatDoor
open Go Go.W
set_option maxRecDepth 100000
def agL (a : Ag) : List Int := [a.1, a.2.1, a.2.2.1, a.2.2.2.1, a.2.2.2.2.1.1, a.2.2.2.2.1.2.1, a.2.2.2.2.1.2.2.1, a.2.2.2.2.1.2.2.2.1, a.2.2.2.2.2.1, a.2.2.2.2.2.2.1]
theorem agL_i64 {a : Ag} (h : OkAg a) : ∀ n ∈ agL a, I64 n := by
  obtain ⟨c, s, mn0, mx0, ⟨h0, h1, h2, h3, _⟩, re, im, _⟩ := a
  obtain ⟨n, g1, g2, g3, g4, ⟨p0, p1, p2, p3, ps⟩, ⟨t0, t1, t2, t3⟩⟩ := h
  dsimp only at n g1 g2 g3 g4 p0 p1 p2 p3 ps t0 t1 t2 t3
  intro x hx
  simp only [agL, List.mem_cons, List.not_mem_nil, or_false] at hx
  rcases hx with rfl | rfl | rfl | rfl | rfl | rfl | rfl | rfl | rfl | rfl
  · exact ⟨by omega, by omega⟩
  · exact g1
  · exact g2
  · exact g3
  all_goals exact ⟨by omega, by omega⟩
section
variable {o : Fix} {Γ Δ : List Assn} {w : World}
theorem mst_of {s : Sem Value} {kd : Kd} {y : KT kd} {v : Value} {K : World → Prop} (h : mrd P s kd (fun x w' => w' = w ∧ x = y) w) (hK : K w) (hv : KV kd y = v := by rfl) : mst P s v K w := by
  obtain ⟨x, h1, _, rfl⟩ := h
  exact ⟨by rw [h1, hv], hK⟩
theorem ixa_fld0 {t te ta : TypeId} {k k0 : Kd} {x : KT k0} {n q : Nat} {a : Addr} {i : Int} {K : Addr → World → Prop} (h : SH o Γ w) [hr : RdV a ta k0 x Γ] [ht : TyD P t (.array n te)] [hk : TyK P te k] (hw : wd k = 1) (h0 : 0 ≤ i) (h1 : i < n) (hq : (q : Int) = i)
    (hK : K (ad a q) w) : ixa P t (.pointer (some a)) i K w := by
  have ha : ad a 0 = a := by obtain ⟨b, rfl, _⟩ := hr.rd h; rfl
  have := ixa_fld (a := a) (m := 0) (q := q) (i := i) (K := K) (t := t) h hw h0 h1 (by omega) hK
  rwa [ha] at this
theorem ld_i4 {t : TypeId} {s : Sl} {a b c e : Int} {K : KT zk4 → World → Prop} [hk : TyK P t zk4] (hr : rdS s I [a, b, c, e] w) (hK : K (a, b, c, e, ()) w) : mrd P (Instr.loadAt t (.pointer s.a)) zk4 K w := by
  obtain ⟨h1, h2, h3⟩ := hr
  rcases h3 with h3 | ⟨b', pre, post, ty, fr, ha, hb⟩
  · simp at h1; omega
  · refine ⟨(a, b, c, e, ()), ?_, hK⟩
    rw [ha]
    exact run_loadAt_k (k := zk4) (rangeAt_cells (mid := KC zk4 (a, b, c, e, ())) hb rfl)
theorem far_ok {R : (Int × Bool × Unit) → World → Prop} {n c : Int} (hc : 0 ≤ c ∧ c ≤ 1099511627776) (hn : -c ≤ n ∧ n ≤ c) (hR : R (mx n (0 - n), true, ()) w) : mcall P n_zf3i [.int .i64 n, .int .i64 c] (.tup [I, .b]) R w := by
  apply zf3i_call
  unfold zf3i_0
  rw [w64_of (x := 0 - c) (by omega) (by omega), w64_of (x := 0 - n) (by omega) (by omega)]
  refine mif_ok (fun g => ?_) (fun _ => ?_)
  · simp at g; omega
  refine mif_ok (fun g => ?_) (fun _ => hR)
  simp at g; omega
theorem fCheck2_ok {R : Int → World → Prop} {a : zT5} (ha : OkAg a) (h : SH o Γ w) (hR : ∀ w', SH o Γ w' → R 0 w') : mcall P n_zf23 [KV zk5 a] I R w := by
  obtain ⟨c, s, mn0, mx0, ⟨h0, h1, h2, h3, _⟩, re, im, _⟩ := a
  obtain ⟨n, g1, g2, g3, g4, ⟨p0, p1, p2, p3, ps⟩, ⟨t0, t1, t2, t3⟩⟩ := ha
  dsimp only at n g1 g2 g3 g4 p0 p1 p2 p3 ps t0 t1 t2 t3
  apply zf23_call
  refine bx_ok h fun x w h => ?_
  refine ld_fld0 h ?_
  refine ld_fld0 h ?_
  refine mif_ok (fun _ => ?_) (fun g => ?_)
  · refine ld_fld0 h ?_
    refine mif_ok (fun _ => ?_) (fun g => ?_)
    · refine ld_fld h ?_
      refine ld_fld h ?_
      dsimp only
      have e1 : decide (mn0 ≤ mx0) = true := by simpa using g4
      rw [e1]
      unfold zf23_1 zf23_3
      refine ld_fld (k' := zk4) h ?_
      unfold zf23_4
      dsimp only
      refine loop_ok (fun (i : Nat) st w => ∃ l, st = (l, true, (i : Int), ()) ∧ SH o (vr x ztg zk5 (c, s, mn0, mx0, (h0, h1, h2, h3, ()), re, im, ()) :: Γ) w ∧ ((i = 0 ∧ l = c) ∨ (i = 1 ∧ l = c - h0) ∨ (i = 2 ∧ l = c - h0 - h1) ∨ (i = 3 ∧ l = c - h0 - h1 - h2) ∨ (i = 4 ∧ l = 0))) (fun i => 4 - i) 0 ⟨c, rfl, h, .inl ⟨rfl, rfl⟩⟩ ?_
      clear h
      rintro i _ w cont ⟨l, rfl, h, hi⟩ hc
      unfold zf23_5
      dsimp only
      have step : ∀ (y l' : Int), 0 ≤ y → y ≤ l → l ≤ 1099511627776 → l' = l - y → i < 4 → ((i + 1 = 1 ∧ l' = c - h0) ∨ (i + 1 = 2 ∧ l' = c - h0 - h1) ∨ (i + 1 = 3 ∧ l' = c - h0 - h1 - h2) ∨ (i + 1 = 4 ∧ l' = 0)) →
          (mif true (mif (decide (y ≥ 0)) (zf23_6 cont R x (w64 (l - y)) (decide (y ≤ l)) (h0, h1, h2, h3, ()) i) (zf23_6 cont R x (w64 (l - y)) false (h0, h1, h2, h3, ()) i)) (zf23_6 cont R x (w64 (l - y)) false (h0, h1, h2, h3, ()) i)) w := by
        intro y l' y0 y1 y2 y3 y4 y5
        refine mif_ok (fun _ => ?_) (fun g => ?_)
        · refine mif_ok (fun _ => ?_) (fun g => ?_)
          · have e2 : decide (y ≤ l) = true := by simpa using y1
            rw [e2, w64_of (by omega) (by omega)]
            unfold zf23_6
            rw [w64_of (by omega) (by omega)]
            refine hc (i + 1) _ w (by omega) ⟨l', by rw [y3]; rfl, h, ?_⟩
            omega
          · simp at g; omega
        · cases g
      refine mif_ok (fun g => ?_) (fun g => ?_)
      · have hi4 : i < 4 := by simp at g; omega
        rcases hi with ⟨rfl, rfl⟩ | ⟨rfl, rfl⟩ | ⟨rfl, rfl⟩ | ⟨rfl, rfl⟩ | ⟨rfl, rfl⟩
        · exact mrd_int (v := h0) (by kernel_rfl) (step h0 _ (by omega) (by omega) (by omega) rfl (by omega) (by omega))
        · exact mrd_int (v := h1) (by kernel_rfl) (step h1 _ (by omega) (by omega) (by omega) rfl (by omega) (by omega))
        · exact mrd_int (v := h2) (by kernel_rfl) (step h2 _ (by omega) (by omega) (by omega) rfl (by omega) (by omega))
        · exact mrd_int (v := h3) (by kernel_rfl) (step h3 _ (by omega) (by omega) (by omega) rfl (by omega) (by omega))
        · omega
      · have hi4 : ¬ i < 4 := by simp at g; omega
        have hl : l = 0 := by omega
        subst hl
        unfold zf23_2
        refine mif_ok (fun g => ?_) (fun _ => ?_)
        · cases g
        refine mif_ok (fun g => ?_) (fun _ => ?_)
        · cases g
        refine ld_fld h ?_
        refine ld_fld0 h ?_
        refine far_ok ⟨by dsimp only; omega, by dsimp only; omega⟩ ⟨by dsimp only; omega, by dsimp only; omega⟩ ?_
        refine ld_fld h ?_
        refine ld_fld0 h ?_
        refine far_ok ⟨by dsimp only; omega, by dsimp only; omega⟩ ⟨by dsimp only; omega, by dsimp only; omega⟩ ?_
        refine mif_ok (fun g => ?_) (fun _ => ?_)
        · cases g
        refine mif_ok (fun g => ?_) (fun _ => ?_)
        · cases g
        refine ld_fld0 h ?_
        dsimp only
        have hm : mx re (0 - re) + mx im (0 - im) ≤ c := by unfold mx; split <;> split <;> omega
        have hm0 : 0 ≤ mx re (0 - re) ∧ 0 ≤ mx im (0 - im) := by unfold mx; constructor <;> split <;> omega
        rw [w64_of (by omega) (by omega)]
        refine mif_ok (fun g => ?_) (fun _ => ?_)
        · have g := of_decide_eq_true g; omega
        exact hR w h.drop
    · simp at g; omega
  · simp at g; omega
theorem fEncode_ok {R : (Bs × Int × Unit) → World → Prop} {a : zT5} (ha : OkAg a) (h : SH o Γ w) (hR : ∀ w', SH o Γ w' → R (putAll (agL a), 0, ()) w') : mcall P n_zf2h [KV zk5 a] (.tup [.s, I]) R w := by
  apply zf2h_call
  refine bx_ok h fun x w h => ?_
  refine ld_var h ?_
  refine fCheck2_ok ha h fun w h => ?_
  refine mif_ok (fun g => ?_) (fun _ => ?_)
  · cases g
  have hx := agL_i64 ha
  obtain ⟨c, s, mn0, mx0, ⟨h0, h1, h2, h3, _⟩, re, im, _⟩ := a
  refine ld_fld (k' := zk4) (a := x) h ?_
  refine alo_ok h fun y w h => ?_
  refine sto_var (a := y) h fun w h => ?_
  refine ld_fld0 (a := x) h ?_
  refine ld_fld (a := x) h ?_
  refine ld_fld (a := x) h ?_
  refine ld_fld (a := x) h ?_
  refine ixa_fld0 (a := y) (k := I) (q := 0) h rfl (by omega) (by omega) rfl ?_
  refine ld_fld (a := y) (n := 0) h ?_
  refine ixa_fld0 (a := y) (k := I) (q := 1) h rfl (by omega) (by omega) rfl ?_
  refine ld_fld (a := y) (n := 1) h ?_
  refine ixa_fld0 (a := y) (k := I) (q := 2) h rfl (by omega) (by omega) rfl ?_
  refine ld_fld (a := y) (n := 2) h ?_
  refine ixa_fld0 (a := y) (k := I) (q := 3) h rfl (by omega) (by omega) rfl ?_
  refine ld_fld (a := y) (n := 3) h ?_
  refine ld_fld (a := x) h ?_
  refine ld_fld (a := x) h ?_
  refine bsl_ok h fun u w h => ?_
  refine PutAll_ok (xs := agL (c, s, mn0, mx0, (h0, h1, h2, h3, ()), re, im, ())) h hx (by simp [agL]) fun w h => ?_
  exact hR w h.drop.drop.drop
theorem fDecode_ok {R : (zT5 × Int × Unit) → World → Prop} {a : zT5} (ha : OkAg a) (h : SH o Γ w) (hR : ∀ w', SH o Γ w' → R (a, 0, ()) w') : mcall P n_zf30 [(.string ⟨(putAll (agL a)).toArray⟩)] (.tup [zk5, I]) R w := by
  have hx := agL_i64 ha
  have hlen := putAll_len hx
  have htk := takeAll_put (agL a) [] hx
  rw [List.append_nil] at htk
  have ha' := ha
  obtain ⟨c, s, mn0, mx0, ⟨h0, h1, h2, h3, _⟩, re, im, _⟩ := a
  have hl10 : (agL (c, s, mn0, mx0, (h0, h1, h2, h3, ()), re, im, ())).length = 10 := rfl
  rw [hl10] at htk hlen
  apply zf30_call
  refine alo_ok h fun x w h => ?_
  refine TakeAll_ok (n := 10) (by omega) (by omega) h (fun l xs r w ht h => ?_) (fun w ht h => ?_)
  · rw [htk] at ht
    simp only [Option.some.injEq, Prod.mk.injEq] at ht
    obtain ⟨rfl, rfl⟩ := ht
    have hl := h.len (s := l)
    rw [hl10] at hl
    refine mif_ok (fun g => ?_) (fun _ => ?_)
    · cases g
    refine mif_ok (fun g => ?_) (fun _ => ?_)
    · cases g
    refine mdraw_ok h fun w h => ?_
    refine ixa_ok (s := l) h (by omega) (by omega) fun e0 ea0 => ?_
    refine ld_el ea0 h rfl ?_
    refine ixa_ok (s := l) h (by omega) (by omega) fun e1 ea1 => ?_
    refine ld_el ea1 h rfl ?_
    refine ixa_ok (s := l) h (by omega) (by omega) fun e2 ea2 => ?_
    refine ld_el ea2 h rfl ?_
    refine ixa_ok (s := l) h (by omega) (by omega) fun e3 ea3 => ?_
    refine ld_el ea3 h rfl ?_
    have hcap := (h.rd (s := l)).2.1
    refine slc_ok (k := I) (by simp) (by simp) (by simp; omega) ?_
    have hcut := (h.rd (s := l)).cut (l := 4) (m := 8) (by omega) (by rw [hl10]; omega)
    have hcl : (cut l I 4 8).len = 4 := rfl
    refine s2a_ok (by show 4 ≤ (cut l I 4 8).len; omega) ?_
    refine ld_i4 hcut ?_
    refine ixa_ok (s := l) h (by omega) (by omega) fun e8 ea8 => ?_
    refine ld_el ea8 h rfl ?_
    refine ixa_ok (s := l) h (by omega) (by omega) fun e9 ea9 => ?_
    refine ld_el ea9 h rfl ?_
    refine alo_ok h fun y w h => ?_
    have hcut := (h.rd (s := l)).cut (l := 4) (m := 8) (by omega) (by rw [hl10]; omega)
    refine mst_el ea9 h rfl ?_
    refine mst_ixa (s := l) h ea9 (by omega) (by omega) ?_
    refine mst_el ea8 h rfl ?_
    refine mst_ixa (s := l) h ea8 (by omega) (by omega) ?_
    refine mst_of (kd := zk4) (ld_i4 hcut ⟨rfl, rfl⟩) ?_
    refine mst_of (kd := .p) (s2a_ok (by show 4 ≤ (cut l I 4 8).len; omega) ⟨rfl, rfl⟩) ?_
    refine mst_of (kd := .sl) (y := cut l I 4 8) (slc_ok (P := P) (t := zt7) (s := l) (lo := some 4) (hi := some 8) (k := I) (by simp) (by simp) (by simp; omega) ⟨rfl, rfl⟩) ?_
    refine mst_el ea3 h rfl ?_
    refine mst_ixa (s := l) h ea3 (by omega) (by omega) ?_
    refine mst_el ea2 h rfl ?_
    refine mst_ixa (s := l) h ea2 (by omega) (by omega) ?_
    refine mst_el ea1 h rfl ?_
    refine mst_ixa (s := l) h ea1 (by omega) (by omega) ?_
    refine mst_el ea0 h rfl ?_
    refine mst_ixa (s := l) h ea0 (by omega) (by omega) ?_
    refine sto_var (a := y) h fun w h => ?_
    refine ld_var (a := y) h ?_
    refine fCheck2_ok ha' h fun w h => ?_
    refine mif_ok (fun g => ?_) (fun _ => ?_)
    · cases g
    refine ld_var (a := y) h ?_
    refine sto_var (a := x) h fun w h => ?_
    refine ld_var (a := x) h ?_
    exact hR w h.to
  · rw [htk] at ht; cases ht
end
end Go.Proofs.YtpjhflboedicpaaGreatDoor
namespace Go.Proofs.YtpjhflboedicpaaGreatDoor
open Go Go.W
set_option maxRecDepth 100000
section
variable {o : Fix} {Γ Δ : List Assn} {w : World}
theorem rPlus_any {R : Int → World → Prop} {a b : Int} (hR : ∀ r, R r w) : mcall P n_zf3r [.int .i64 a, .int .i64 b] I R w := by
  apply zf3r_call
  have h2 : zf3r_2 R a b w := by unfold zf3r_2; exact hR _
  have h1 : zf3r_1 R a b w := by
    unfold zf3r_1
    refine mif_ok (fun _ => mif_ok (fun _ => hR _) (fun _ => h2)) (fun _ => h2)
  exact mif_ok (fun _ => mif_ok (fun _ => hR _) (fun _ => h1)) (fun _ => h1)
theorem rSort_any {R : Int → World → Prop} {v : Int} (hR : ∀ q : Nat, q < 4 → R (q : Int) w) : mcall P n_zf3s [.int .i64 v] I R w := by
  apply zf3s_call
  refine mif_ok (fun _ => hR 3 (by omega)) (fun _ => ?_)
  refine mif_ok (fun _ => hR 2 (by omega)) (fun _ => ?_)
  exact mif_ok (fun _ => hR 1 (by omega)) (fun _ => hR 0 (by omega))
theorem rMay_ok {R : Bool → World → Prop} {a : zT5} (ha : OkAg a) (h : SH o Γ w) (hR : ∀ w', SH o Γ w' → R true w') : mcall P n_zfk [KV zk5 a] .b R w := by
  obtain ⟨c, s, mn0, mx0, ⟨h0, h1, h2, h3, _⟩, re, im, _⟩ := a
  obtain ⟨n, g1, g2, g3, g4, ⟨p0, p1, p2, p3, ps⟩, ⟨t0, t1, t2, t3⟩⟩ := ha
  dsimp only at n g1 g2 g3 g4 p0 p1 p2 p3 ps t0 t1 t2 t3
  apply zfk_call
  refine bx_ok h fun x w h => ?_
  refine ld_fld0 h ?_
  refine mif_ok (fun g => ?_) (fun _ => ?_)
  · simp at g; omega
  refine ld_fld0 h ?_
  refine mif_ok (fun g => ?_) (fun _ => ?_)
  · simp at g; omega
  refine ld_fld h ?_
  refine ld_fld h ?_
  refine mif_ok (fun g => ?_) (fun _ => ?_)
  · simp at g; omega
  unfold zfk_1 zfk_5 zfk_6
  refine loop_ok (fun (i : Nat) st w => ∃ l, st = (l, (i : Int), ()) ∧ SH o (vr x ztg zk5 (c, s, mn0, mx0, (h0, h1, h2, h3, ()), re, im, ()) :: Γ) w ∧ ((i = 0 ∧ l = 0) ∨ (i = 1 ∧ l = h0) ∨ (i = 2 ∧ l = h0 + h1) ∨ (i = 3 ∧ l = h0 + h1 + h2) ∨ (i = 4 ∧ l = c))) (fun i => 4 - i) 0 ⟨0, rfl, h, .inl ⟨rfl, rfl⟩⟩ ?_
  clear h
  rintro i _ w cont ⟨l, rfl, h, hi⟩ hc
  unfold zfk_7
  dsimp only
  refine mif_ok (fun g => ?_) (fun g => ?_)
  · have hi4 : i < 4 := by simp at g; omega
    rcases hi with ⟨rfl, rfl⟩ | ⟨rfl, rfl⟩ | ⟨rfl, rfl⟩ | ⟨rfl, rfl⟩ | ⟨rfl, rfl⟩
    · refine ixa_fld (a := x) (k := I) (q := 4) h rfl (by omega) (by omega) (by omega) ?_
      refine ld_fld (n := 4) h ?_
      refine mif_ok (fun g => ?_) (fun _ => ?_)
      · simp at g; omega
      refine ixa_fld (a := x) (k := I) (q := 4) h rfl (by omega) (by omega) (by omega) ?_
      refine ld_fld (n := 4) h ?_
      refine mif_ok (fun g => ?_) (fun _ => ?_)
      · simp at g; omega
      refine ixa_fld (a := x) (k := I) (q := 4) h rfl (by omega) (by omega) (by omega) ?_
      refine ld_fld (n := 4) h ?_
      dsimp only
      rw [w64_of (by omega) (by omega), w64_of (by omega) (by omega)]
      exact hc 1 _ w (by omega) ⟨_, rfl, h, by omega⟩
    · refine ixa_fld (a := x) (k := I) (q := 5) h rfl (by omega) (by omega) (by omega) ?_
      refine ld_fld (n := 5) h ?_
      refine mif_ok (fun g => ?_) (fun _ => ?_)
      · simp at g; omega
      refine ixa_fld (a := x) (k := I) (q := 5) h rfl (by omega) (by omega) (by omega) ?_
      refine ld_fld (n := 5) h ?_
      refine mif_ok (fun g => ?_) (fun _ => ?_)
      · simp at g; omega
      refine ixa_fld (a := x) (k := I) (q := 5) h rfl (by omega) (by omega) (by omega) ?_
      refine ld_fld (n := 5) h ?_
      dsimp only
      rw [w64_of (by omega) (by omega), w64_of (by omega) (by omega)]
      exact hc 2 _ w (by omega) ⟨_, rfl, h, by omega⟩
    · refine ixa_fld (a := x) (k := I) (q := 6) h rfl (by omega) (by omega) (by omega) ?_
      refine ld_fld (n := 6) h ?_
      refine mif_ok (fun g => ?_) (fun _ => ?_)
      · simp at g; omega
      refine ixa_fld (a := x) (k := I) (q := 6) h rfl (by omega) (by omega) (by omega) ?_
      refine ld_fld (n := 6) h ?_
      refine mif_ok (fun g => ?_) (fun _ => ?_)
      · simp at g; omega
      refine ixa_fld (a := x) (k := I) (q := 6) h rfl (by omega) (by omega) (by omega) ?_
      refine ld_fld (n := 6) h ?_
      dsimp only
      rw [w64_of (by omega) (by omega), w64_of (by omega) (by omega)]
      exact hc 3 _ w (by omega) ⟨_, rfl, h, by omega⟩
    · refine ixa_fld (a := x) (k := I) (q := 7) h rfl (by omega) (by omega) (by omega) ?_
      refine ld_fld (n := 7) h ?_
      refine mif_ok (fun g => ?_) (fun _ => ?_)
      · simp at g; omega
      refine ixa_fld (a := x) (k := I) (q := 7) h rfl (by omega) (by omega) (by omega) ?_
      refine ld_fld (n := 7) h ?_
      refine mif_ok (fun g => ?_) (fun _ => ?_)
      · simp at g; omega
      refine ixa_fld (a := x) (k := I) (q := 7) h rfl (by omega) (by omega) (by omega) ?_
      refine ld_fld (n := 7) h ?_
      dsimp only
      rw [w64_of (by omega) (by omega), w64_of (by omega) (by omega)]
      exact hc 4 _ w (by omega) ⟨_, rfl, h, by omega⟩
    · omega
  · have hi4 : ¬ i < 4 := by simp at g; omega
    have hl : l = c := by omega
    subst hl
    unfold zfk_2
    refine ld_fld0 h ?_
    refine mif_ok (fun g => ?_) (fun _ => ?_)
    · simp at g
    refine ld_fld h ?_
    refine mif_ok (fun g => ?_) (fun _ => ?_)
    · simp at g; omega
    refine ld_fld h ?_
    refine mif_ok (fun g => ?_) (fun _ => ?_)
    · simp at g; omega
    refine ld_fld h ?_
    refine mif_ok (fun g => ?_) (fun _ => ?_)
    · simp at g; omega
    refine ld_fld h ?_
    refine mif_ok (fun g => ?_) (fun _ => ?_)
    · simp at g; omega
    refine mdraw_ok h fun w h => ?_
    refine ld_fld h ?_
    refine ld_fld h ?_
    dsimp only
    have last : ∀ (u v : Int) w, 0 ≤ u → 0 ≤ v → u ≤ l → v ≤ l → u + v ≤ l → SH o (vr x ztg zk5 (l, s, mn0, mx0, (h0, h1, h2, h3, ()), re, im, ()) :: Γ) w → zfk_4 R x u v w := by
      intro u v w u0 v0 u1 v1 uv h
      unfold zfk_4
      refine ld_fld0 h ?_
      dsimp only
      have e : decide (w64 (u + v) ≤ l) = true := by rw [w64_of (by omega) (by omega)]; simpa using uv
      rw [e]
      exact hR w h.drop
    have third : ∀ (u : Int) w, 0 ≤ u → u ≤ l → u + im ≤ l → u - im ≤ l → SH o (vr x ztg zk5 (l, s, mn0, mx0, (h0, h1, h2, h3, ()), re, im, ()) :: Γ) w → zfk_3 R x u im w := by
      intro u w u0 u1 u2 u3 h
      unfold zfk_3
      refine mif_ok (fun g => ?_) (fun g => ?_)
      · have hlt : im < 0 := by simpa using g
        rw [w64_of (by omega) (by omega)]
        exact last u (0 - im) w u0 (by omega) u1 (by omega) (by omega) h
      · have hlt : ¬ im < 0 := by simpa using g
        exact last u im w u0 (by omega) u1 (by omega) (by omega) h
    refine mif_ok (fun g => ?_) (fun g => ?_)
    · have hlt : re < 0 := by simpa using g
      rw [w64_of (by omega) (by omega)]
      exact third (0 - re) w (by omega) (by omega) (by omega) (by omega) h
    · have hlt : ¬ re < 0 := by simpa using g
      exact third re w (by omega) (by omega) (by omega) (by omega) h
theorem rAdd_any {R : zT5 → World → Prop} {a : zT5} {v : Int} (hv : I64 v) (h : SH o Γ w) (hR : ∀ a' w', SH o Γ w' → R a' w') : mcall P n_zf2e [KV zk5 a, .int .i64 v] zk5 R w := by
  apply zf2e_call
  refine bx_ok h fun x w h => ?_
  refine alo_ok h fun y w h => ?_
  refine ld_var (a := x) h ?_
  refine alo_ok h fun z w h => ?_
  refine sto_var (a := z) h fun w h => ?_
  have fin : ∀ b1 b2 w, SH o (vr z ztg zk5 b1 :: vr y ztg zk5 b2 :: vr x ztg zk5 a :: Γ) w → zf2e_6 R y z w := by
    intro b1 b2 w h
    unfold zf2e_6
    refine ld_var (a := z) h ?_
    refine sto_var (a := y) h fun w h => ?_
    refine ld_var (a := y) h ?_
    exact hR _ w h.to
  have quart : ∀ (q : Int) b1 b2 w, SH o (vr z ztg zk5 b1 :: vr y ztg zk5 b2 :: vr x ztg zk5 a :: Γ) w → zf2e_3 R x y z q w := by
    intro q b1 b2 w h
    have s5 : ∀ b1 w, SH o (vr z ztg zk5 b1 :: vr y ztg zk5 b2 :: vr x ztg zk5 a :: Γ) w → zf2e_5 R x y z q w := by
      intro b1 w h
      unfold zf2e_5
      refine mif_ok (fun _ => ?_) (fun _ => fin b1 b2 w h)
      refine ld_fld (a := x) h ?_
      refine rPlus_any fun r => ?_
      refine sto_fld (a := z) h fun w h => ?_
      exact fin _ b2 w h
    have s4 : ∀ b1 w, SH o (vr z ztg zk5 b1 :: vr y ztg zk5 b2 :: vr x ztg zk5 a :: Γ) w → zf2e_4 R x y z q w := by
      intro b1 w h
      unfold zf2e_4
      refine mif_ok (fun _ => ?_) (fun _ => s5 b1 w h)
      refine ld_fld (a := x) h ?_
      refine rPlus_any fun r => ?_
      refine sto_fld (a := z) h fun w h => ?_
      exact s5 _ w h
    unfold zf2e_3
    refine mif_ok (fun _ => ?_) (fun _ => s4 b1 w h)
    refine ld_fld (a := x) h ?_
    refine rPlus_any fun r => ?_
    refine sto_fld (a := z) h fun w h => ?_
    exact s4 _ w h
  have two : ∀ b1 b2 w, SH o (vr z ztg zk5 b1 :: vr y ztg zk5 b2 :: vr x ztg zk5 a :: Γ) w → zf2e_2 R v x y z w := by
    intro b1 b2 w h
    unfold zf2e_2
    refine ld_fld0 (a := x) h ?_
    refine rPlus_any fun r => ?_
    refine sto_fld0 (a := z) h fun w h => ?_
    refine ld_fld (a := x) h ?_
    refine rPlus_any fun r => ?_
    refine sto_fld (a := z) h fun w h => ?_
    refine rSort_any fun q hq => ?_
    have tail : ∀ b1 w, SH o (vr z ztg zk5 b1 :: vr y ztg zk5 b2 :: vr x ztg zk5 a :: Γ) w →
        (mif (((w64 ((v.tmod 4) + 4)).tmod 4) == 0)
          (ld P zt1 (ad x 8) I fun (x18 : Int) =>
          mcall P n_zf3r [(.int .i64 x18), (.int .i64 1)] I fun (x19 : Int) =>
          sto P zt1 (ad z 8) I x19 <|
          zf2e_3 R x y z ((w64 ((v.tmod 4) + 4)).tmod 4))
          (zf2e_3 R x y z ((w64 ((v.tmod 4) + 4)).tmod 4))) w := by
      intro b1 w h
      refine mif_ok (fun _ => ?_) (fun _ => quart _ b1 b2 w h)
      refine ld_fld (a := x) h ?_
      refine rPlus_any fun r => ?_
      refine sto_fld (a := z) h fun w h => ?_
      exact quart _ _ b2 w h
    have hq4 : q = 0 ∨ q = 1 ∨ q = 2 ∨ q = 3 := by omega
    rcases hq4 with rfl | rfl | rfl | rfl
    · refine ixa_fld (a := x) (k := I) (q := 4) h rfl (by omega) (by omega) (by omega) ?_
      refine ld_fld (a := x) (n := 4) h ?_
      refine rPlus_any fun r => ?_
      refine ixa_fld (a := z) (k := I) (q := 4) h rfl (by omega) (by omega) (by omega) ?_
      refine sto_fld (a := z) (n := 4) h fun w h => ?_
      exact tail _ w h
    · refine ixa_fld (a := x) (k := I) (q := 5) h rfl (by omega) (by omega) (by omega) ?_
      refine ld_fld (a := x) (n := 5) h ?_
      refine rPlus_any fun r => ?_
      refine ixa_fld (a := z) (k := I) (q := 5) h rfl (by omega) (by omega) (by omega) ?_
      refine sto_fld (a := z) (n := 5) h fun w h => ?_
      exact tail _ w h
    · refine ixa_fld (a := x) (k := I) (q := 6) h rfl (by omega) (by omega) (by omega) ?_
      refine ld_fld (a := x) (n := 6) h ?_
      refine rPlus_any fun r => ?_
      refine ixa_fld (a := z) (k := I) (q := 6) h rfl (by omega) (by omega) (by omega) ?_
      refine sto_fld (a := z) (n := 6) h fun w h => ?_
      exact tail _ w h
    · refine ixa_fld (a := x) (k := I) (q := 7) h rfl (by omega) (by omega) (by omega) ?_
      refine ld_fld (a := x) (n := 7) h ?_
      refine rPlus_any fun r => ?_
      refine ixa_fld (a := z) (k := I) (q := 7) h rfl (by omega) (by omega) (by omega) ?_
      refine sto_fld (a := z) (n := 7) h fun w h => ?_
      exact tail _ w h
  have one : ∀ b1 b2 w, SH o (vr z ztg zk5 b1 :: vr y ztg zk5 b2 :: vr x ztg zk5 a :: Γ) w → zf2e_1 R v x y z w := by
    intro b1 b2 w h
    unfold zf2e_1
    refine ld_fld0 (a := x) h ?_
    refine mif_ok (fun _ => ?_) (fun _ => ?_)
    · refine sto_fld (a := z) h fun w h => ?_
      exact two _ b2 w h
    · refine ld_fld (a := x) h ?_
      refine mif_ok (fun _ => ?_) (fun _ => two b1 b2 w h)
      refine sto_fld (a := z) h fun w h => ?_
      exact two _ b2 w h
  refine ld_fld0 (a := x) h ?_
  refine mif_ok (fun _ => ?_) (fun _ => ?_)
  · refine sto_fld (a := z) h fun w h => ?_
    exact one _ _ w h
  · refine ld_fld (a := x) h ?_
    refine mif_ok (fun _ => ?_) (fun _ => one _ _ w h)
    refine sto_fld (a := z) h fun w h => ?_
    exact one _ _ w h
end
end Go.Proofs.YtpjhflboedicpaaGreatDoor
