/- Contracts of functions of the program, proved on their short texts. No condition. -/
import Derived.Test.YtegjokkkdkaphaaGreatDoorMa
set_option linter.unusedVariables false
set_option linter.unusedSimpArgs false
/- Contracts: batches. -/
namespace Go.Proofs.YtegjokkkdkaphaaGreatDoor
open Go Go.W
set_option maxRecDepth 100000

structure MayP (b : T_api_Batch) (rs : List Rec) : Prop where
  pid : 0 ≤ b.2.1 ∧ b.2.1 ≤ 8
  epoch : inB b.2.2.1 = true
  seq : inB b.2.2.2.1 = true
  len : rs.length ≤ 64
  all : rs.all mayRec = true
  kind : (b.1 = 1 ∧ 0 < rs.length ∧ (0 < b.2.1 ∧ 0 < b.2.2.1 ∨ b.2.1 = 0 ∧ b.2.2.1 = 0 ∧ b.2.2.2.1 = 0)) ∨ (b.1 = 2 ∧ 0 < rs.length ∧ 0 < b.2.1 ∧ 0 < b.2.2.1) ∨
    ((b.1 = 3 ∨ b.1 = 4) ∧ rs.length = 0 ∧ (0 < b.2.1 ∧ 0 < b.2.2.1) ∧ b.2.2.2.1 = 0)

theorem MayP_iff {b : T_api_Batch} {rs : List Rec} : MayP b rs ↔ bmay b.1 b.2.1 b.2.2.1 b.2.2.2.1 rs = true := by
  constructor
  · rintro ⟨h1, h2, h3, h4, h5, h6⟩
    simp only [bmay, Bool.and_eq_true, decide_eq_true_eq]
    exact ⟨⟨⟨⟨⟨h1, h2⟩, h3⟩, h4⟩, h5⟩, by simpa [bkind] using h6⟩
  · intro h
    simp only [bmay, Bool.and_eq_true, decide_eq_true_eq] at h
    obtain ⟨⟨⟨⟨⟨h1, h2⟩, h3⟩, h4⟩, h5⟩, h6⟩ := h
    exact ⟨h1, h2, h3, h4, h5, by simpa [bkind] using h6⟩

section
variable {o : Fix} {Γ Δ : List Assn} {w : World}

theorem In_ok {R : Bool → World → Prop} {n : Int} (hR : R (inB n) w) : mcall P n_headgateref06_In [(.int .i64 n)] .b R w := by
  apply headgateref06_In_call
  refine mif_ok (fun h => ?_) (fun h => ?_) <;> simp at h
  · have : decide (n ≤ 1099511627776) = inB n := by simp [inB]; omega
    rw [this]; exact hR
  · have : false = inB n := by simp [inB]; omega
    rw [this]; exact hR

theorem MayRecord_ok {R : Bool → World → Prop} {r : Rec} (h : SH o Γ w) (hR : ∀ w', SH o Γ w' → R (mayRec r) w') :
    mcall P n_headgateref06_MayRecord [KV k_api_Record r] .b R w := by
  apply headgateref06_MayRecord_call
  refine bx_ok h fun a w h => ?_
  refine ld_fld0 h ?_
  refine mif_ok (fun h1 => ?_) (fun h1 => ?_) <;> simp at h1
  · refine ld_fld0 h ?_
    refine mif_ok (fun h2 => ?_) (fun h2 => ?_) <;> simp at h2
    · refine ld_fld h ?_
      refine In_ok ?_
      refine mif_ok (fun h3 => ?_) (fun h3 => ?_)
      · refine ld_fld h ?_
        have : decide ((r.2.2.1.length : Int) ≤ 512) = mayRec r := by simp [mayRec, h1, h2, h3]; omega
        rw [this]; exact hR _ h.drop
      · have : false = mayRec r := by simp [mayRec, h3]
        rw [this]; exact hR _ h.drop
    · have : false = mayRec r := by simp [mayRec]; omega
      rw [this]; exact hR _ h.drop
  · have : false = mayRec r := by simp [mayRec]; omega
    rw [this]; exact hR _ h.drop

theorem May_raw {R : Bool → World → Prop} {b : T_api_Batch} {rs : List Rec} (h : SH o Γ w) [hr : RdS b.2.2.2.2.1 k_api_Record rs Γ] (hR : ∀ r w', (r = true ↔ MayP b rs) → SH o Γ w' → R r w') :
    mcall P n_headgateref06_May [KV k_api_Batch b] .b R w := by
  apply headgateref06_May_call
  have hl := h.len (s := b.2.2.2.2.1)
  have no : ∀ w', SH o Γ w' → ¬ MayP b rs → R false w' := fun w' h hn => hR _ _ (iff_of_false (by simp) hn) h
  refine bx_ok h fun a w h => ?_
  refine ld_fld h ?_
  refine In_ok ?_
  refine mif_ok (fun h1 => ?_) (fun h1 => ?_) <;> simp at h1
  · exact no _ h.drop fun hm => by have := hm.pid; simp [inB] at h1; omega
  refine ld_fld h ?_
  refine mif_ok (fun h2 => ?_) (fun h2 => ?_) <;> simp at h2
  · exact no _ h.drop fun hm => by have := hm.pid; omega
  refine ld_fld h ?_
  refine In_ok ?_
  refine mif_ok (fun h3 => ?_) (fun h3 => ?_) <;> simp at h3
  · exact no _ h.drop fun hm => by have := hm.epoch; simp_all
  refine ld_fld h ?_
  refine In_ok ?_
  refine mif_ok (fun h4 => ?_) (fun h4 => ?_) <;> simp at h4
  · exact no _ h.drop fun hm => by have := hm.seq; simp_all
  refine ld_fld h ?_
  refine mif_ok (fun h5 => ?_) (fun h5 => ?_) <;> simp at h5
  · exact no _ h.drop fun hm => by have := hm.len; omega
  have h1' : 0 ≤ b.2.1 := by simp [inB] at h1; omega
  -- the loop
  unfold headgateref06_May_1 headgateref06_May_5 headgateref06_May_6
  refine loop_ok (fun (i : Nat) s w => s = ((i : Int), ()) ∧ i ≤ rs.length ∧ (rs.take i).all mayRec = true ∧ SH o (vr a t_api_Batch k_api_Batch b :: Γ) w) (fun i => rs.length - i) 0 ⟨rfl, by omega, by simp, h⟩ ?_
  rintro i _ w cont ⟨rfl, hi, hall, h⟩ hc
  dsimp only
  refine ld_fld h ?_
  refine mif_ok (fun h6 => ?_) (fun h6 => ?_) <;> simp at h6
  · refine ld_fld h ?_
    refine ixa_ok h (by omega) (by omega) fun e ea => ?_
    have hlt : i < rs.length := by omega
    refine ld_el ea h (List.getElem?_eq_getElem hlt) ?_
    refine MayRecord_ok h fun w h => ?_
    have hstep : (rs.take (i + 1)).all mayRec = mayRec rs[i] := by
      rw [List.take_add_one, List.getElem?_eq_getElem hlt, List.all_append, hall]; simp
    refine mif_ok (fun h7 => ?_) (fun h7 => ?_) <;> simp at h7
    · refine no _ h.drop fun hm => ?_
      have := hm.all
      rw [← List.take_append_drop (i + 1) rs, List.all_append, hstep, h7] at this; simp at this
    · rw [w64_of (by omega) (by omega)]
      exact hc (i + 1) _ w (by omega) ⟨rfl, hlt, hstep.trans h7, h⟩
  have hi' : i = rs.length := by omega
  rw [hi', List.take_length] at hall
  clear hc cont hi hi' h6 
  have fin : ∀ r w', (r = true ↔ (b.1 = 1 ∧ 0 < rs.length ∧ (0 < b.2.1 ∧ 0 < b.2.2.1 ∨ b.2.1 = 0 ∧ b.2.2.1 = 0 ∧ b.2.2.2.1 = 0)) ∨ (b.1 = 2 ∧ 0 < rs.length ∧ 0 < b.2.1 ∧ 0 < b.2.2.1) ∨
    ((b.1 = 3 ∨ b.1 = 4) ∧ rs.length = 0 ∧ (0 < b.2.1 ∧ 0 < b.2.2.1) ∧ b.2.2.2.1 = 0)) → SH o Γ w' → R r w' := fun r w' hr h =>
    hR r w' ⟨fun e => ⟨⟨h1', h2⟩, h3, h4, by omega, hall, hr.1 e⟩, fun hm => hr.2 hm.kind⟩ h
  clear hR no
  have key4 : ∀ (sm nn : Bool) w, (sm = true ↔ 0 < b.2.1 ∧ 0 < b.2.2.1) → (nn = true ↔ b.2.1 = 0 ∧ b.2.2.1 = 0 ∧ b.2.2.2.1 = 0) → SH o (vr a t_api_Batch k_api_Batch b :: Γ) w → headgateref06_May_4 R a sm nn w := by
    intro sm nn w hsm hnn h
    refine ld_fld0 h ?_
    refine mif_ok (fun g1 => ?_) (fun g1 => ?_) <;> simp at g1
    · refine ld_fld h ?_
      refine mif_ok (fun g2 => ?_) (fun g2 => ?_) <;> simp at g2
      · refine mif_ok (fun g3 => ?_) (fun g3 => ?_)
        · exact fin _ _ (by simp [hsm] at g3; simp [g1]; omega) h.drop
        · exact fin _ _ (by rw [hnn]; have : ¬ (0 < b.2.1 ∧ 0 < b.2.2.1) := by rw [← hsm]; simp [g3]
                            omega) h.drop
      · exact fin _ _ (by simp; omega) h.drop
    refine ld_fld0 h ?_
    refine mif_ok (fun g2 => ?_) (fun g2 => ?_) <;> simp at g2
    · refine ld_fld h ?_
      refine mif_ok (fun g3 => ?_) (fun g3 => ?_) <;> simp at g3
      · exact fin _ _ (by rw [hsm]; omega) h.drop
      · exact fin _ _ (by simp; omega) h.drop
    have more : ∀ w, SH o (vr a t_api_Batch k_api_Batch b :: Γ) w → (b.1 = 3 ∨ b.1 = 4) → ld P t_sl_api_Record (ad a 4) .sl (fun (x20 : Sl) => mif ((x20.len : Int) == 0) (mif sm (ld P t_int (ad a 3) I fun (x21 : Int) => R (x21 == 0)) (R false)) (R false)) w := by
      intro w h g4
      refine ld_fld h ?_
      refine mif_ok (fun g3 => ?_) (fun g3 => ?_) <;> simp at g3
      · refine mif_ok (fun g5 => ?_) (fun g5 => ?_)
        · refine ld_fld h ?_
          exact fin _ _ (by rw [hsm] at g5; rw [beq_iff_eq]; omega) h.drop
        · exact fin _ _ (by have : ¬ (0 < b.2.1 ∧ 0 < b.2.2.1) := by rw [← hsm]; simp [g5]
                            simp only [Bool.false_eq_true, false_iff]; omega) h.drop
      · exact fin _ _ (by simp only [Bool.false_eq_true, false_iff]; omega) h.drop
    refine ld_fld0 h ?_
    refine mif_ok (fun g3 => ?_) (fun g3 => ?_) <;> simp at g3
    · exact more _ h (.inl g3)
    refine ld_fld0 h ?_
    refine mif_ok (fun g4 => ?_) (fun g4 => ?_) <;> simp at g4
    · exact more _ h (.inr g4)
    · exact fin _ _ (by simp only [Bool.false_eq_true, false_iff]; omega) h.drop
  have key3 : ∀ (sm : Bool) w, (sm = true ↔ 0 < b.2.1 ∧ 0 < b.2.2.1) → SH o (vr a t_api_Batch k_api_Batch b :: Γ) w → headgateref06_May_3 R a sm w := by
    intro sm w hsm h
    refine ld_fld h ?_
    refine mif_ok (fun g1 => ?_) (fun g1 => ?_) <;> simp at g1
    · refine ld_fld h ?_
      refine mif_ok (fun g2 => ?_) (fun g2 => ?_) <;> simp at g2
      · refine ld_fld h ?_
        exact key4 _ _ _ hsm (by rw [beq_iff_eq]; omega) h
      · exact key4 _ _ _ hsm (by simp only [Bool.false_eq_true, false_iff]; omega) h
    · exact key4 _ _ _ hsm (by simp only [Bool.false_eq_true, false_iff]; omega) h
  refine ld_fld h ?_
  refine mif_ok (fun g1 => ?_) (fun g1 => ?_) <;> simp at g1
  · refine ld_fld h ?_
    exact key3 _ _ (by rw [decide_eq_true_iff]; omega) h
  · exact key3 _ _ (by simp only [Bool.false_eq_true, false_iff]; omega) h

theorem May_ok {R : Bool → World → Prop} {b : T_api_Batch} {rs : List Rec} (h : SH o Γ w) [hr : RdS b.2.2.2.2.1 k_api_Record rs Γ] (hR : ∀ w', SH o Γ w' → R (bmay b.1 b.2.1 b.2.2.1 b.2.2.2.1 rs) w') : mcall P n_headgateref06_May [KV k_api_Batch b] .b R w := by
  refine May_raw h fun r w' hr h => ?_
  have : r = bmay b.1 b.2.1 b.2.2.1 b.2.2.2.1 rs := by
    rw [MayP_iff] at hr
    cases r <;> cases hb : bmay b.1 b.2.1 b.2.2.1 b.2.2.2.1 rs <;> simp_all
  rw [this]; exact hR w' h

theorem IndexFunc_int_ok {R : Int → World → Prop} {l : Sl} {xs : List Int} {f : Value} {p : Int → Bool} (h : SH o Γ w) [hr : RdS l I xs Γ] (hl : xs.length ≤ 9223372036854775807)
    (hf : ∀ x w (K : Bool → World → Prop), x ∈ xs → SH o Γ w → (∀ w', SH o Γ w' → K (p x) w') → mdyn P f [.int .i64 x] .b K w)
    (hR : ∀ r w', (xs.any p = true ↔ 0 ≤ r) → SH o Γ w' → R r w') : mcall P n_slices_IndexFunc_sl_int_int [(Sl.v l), f] I R w := by
  apply slices_IndexFunc_sl_int_int_call
  have hlen := h.len (s := l)
  unfold slices_IndexFunc_sl_int_int_0 slices_IndexFunc_sl_int_int_1 slices_IndexFunc_sl_int_int_3 slices_IndexFunc_sl_int_int_4
  refine loop_ok (fun (i : Nat) t w => t = ((i : Int), ()) ∧ i ≤ xs.length ∧ (xs.take i).any p = false ∧ SH o Γ w) (fun i => xs.length - i) 0 ⟨rfl, by omega, by simp, h⟩ ?_
  rintro i _ w cont ⟨rfl, hi, ha, h⟩ hc
  dsimp only
  refine mif_ok (fun g1 => ?_) (fun g1 => ?_)
  · have hlt : i < xs.length := by simp at g1; omega
    refine ixa_ok h (by omega) (by omega) fun e ea => ?_
    refine ld_el ea h (List.getElem?_eq_getElem hlt) ?_
    refine hf _ w _ (List.getElem_mem hlt) h fun w h => ?_
    refine mif_ok (fun g2 => ?_) (fun g2 => ?_)
    · refine hR _ w (iff_of_true ?_ (by omega)) h
      exact List.any_eq_true.2 ⟨xs[i], List.getElem_mem hlt, g2⟩
    · rw [w64_of (by omega) (by omega)]
      refine hc (i + 1) _ w (by omega) ⟨rfl, hlt, ?_, h⟩
      rw [List.take_add_one, List.getElem?_eq_getElem hlt, List.any_append, ha]; simp [g2]
  · have hi' : i = xs.length := by simp at g1; omega
    subst hi'
    rw [List.take_length] at ha
    exact hR _ w (iff_of_false (by simp [ha]) (by decide)) h

theorem within_ok {R : Bool → World → Prop} {l : Sl} {xs : List Int} (h : SH o Γ w) [hr : RdS l I xs Γ] (hl : xs.length ≤ 9223372036854775807) (hR : ∀ w', SH o Γ w' → R (xs.all inB) w') : mcall P n_batch_within [(Sl.v l)] .b R w := by
  apply batch_within_call
  show mcall P n_slices_ContainsFunc_sl_int_int [(Sl.v l), (.func (.func n_batch_within_c1) #[] #[])] .b (fun (x1 : Bool) => R (!x1)) w
  apply slices_ContainsFunc_sl_int_int_call
  refine IndexFunc_int_ok (p := fun x => !inB x) h hl (fun x w K _ h hK => ?_) fun r w hr h => ?_
  · show mcall P n_batch_within_c1 [.int .i64 x] .b K w
    apply batch_within_c1_call
    have := hK w h
    refine mif_ok (fun g1 => ?_) (fun g1 => ?_)
    · have e : (!inB x) = true := by simp [inB] at g1 ⊢; omega
      rwa [e] at this
    · have e : (!inB x) = decide (x > 1099511627776) := by rw [Bool.eq_iff_iff]; simp [inB] at g1 ⊢; omega
      rwa [e] at this
  · have e : (!decide (r ≥ 0)) = xs.all inB := by
      have : xs.all inB = !xs.any fun x => !inB x := by simp [List.all_eq_not_any_not]
      rw [this]
      congr 1
      cases ha : xs.any fun x => !inB x with
      | true => rw [ha] at hr; simpa using hr
      | false => rw [ha] at hr; simp at hr; simp; omega
    show R (!decide (r ≥ 0)) w
    rw [e]; exact hR w h

theorem may_ok {R : Bool → World → Prop} {r : Rec} (h : SH o Γ w) (hR : ∀ w', SH o Γ w' → R (mayRec r) w') : mcall P n_batch_may [KV k_api_Record r] .b R w := by
  apply batch_may_call
  refine bx_ok h fun a w h => ?_
  refine ld_fld0 h ?_
  refine ld_fld h ?_
  refine bsl_ok h fun x w h => ?_
  refine within_ok h (by simp) fun w h => ?_
  have no : ¬ mayRec r = true → R false w := fun hn => by
    have := hR w h.drop.drop
    rwa [show mayRec r = false by simpa using hn] at this
  have hall : [r.1, r.2.1].all inB = (inB r.1 && inB r.2.1) := by simp
  rw [hall]
  refine mif_ok (fun g1 => ?_) (fun g1 => ?_)
  · refine ld_fld0 h ?_
    refine mif_ok (fun g2 => ?_) (fun g2 => ?_)
    · refine ld_fld h ?_
      have := hR w h.drop.drop
      have e : mayRec r = decide ((r.2.2.1.length : Int) ≤ 512) := by
        simp [inB] at g1 g2
        simp [mayRec, inB]
        rw [Bool.eq_iff_iff]; simp; omega
      rwa [e] at this
    · exact no fun hm => by have := mayRec_spec hm; simp at g2; omega
  · exact no fun hm => by have := mayRec_spec hm; simp [inB] at g1; omega

theorem Len_ok {R : Int → World → Prop} {b : T_api_Batch} (h : SH o Γ w) (hR : ∀ w', SH o Γ w' → R (mx 1 (b.2.2.2.2.1.len : Int)) w') : mcall P n_batch_Len [KV k_api_Batch b] I R w := by
  apply batch_Len_call
  refine bx_ok h fun a w h => ?_
  refine ld_fld h ?_
  exact hR w h.drop

theorem bCheck_ok {R : Int → World → Prop} {b : T_api_Batch} {rs : List Rec} (h : SH o Γ w) [hr : RdS b.2.2.2.2.1 k_api_Record rs Γ] (hl : rs.length ≤ 9223372036854775807) (hR : ∀ w', SH o Γ w' → R (if bmay b.1 b.2.1 b.2.2.1 b.2.2.2.1 rs then 0 else 1) w') :
    mcall P n_batch_Check [KV k_api_Batch b] I R w := by
  apply batch_Check_call
  have hlen := h.len (s := b.2.2.2.2.1)
  refine bx_ok h fun a w h => ?_
  refine ld_fld h ?_
  refine ld_fld h ?_
  refine ld_fld h ?_
  refine bsl_ok h fun x w h => ?_
  refine within_ok h (by simp) fun w h => ?_
  have h := h.drop
  have hall : [b.2.1, b.2.2.1, b.2.2.2.1].all inB = (inB b.2.1 && (inB b.2.2.1 && inB b.2.2.2.1)) := by simp
  rw [hall]
  have key5 : ∀ (ok : Bool) w, ok = bmay b.1 b.2.1 b.2.2.1 b.2.2.2.1 rs → SH o Γ w → batch_Check_5 R ok w := by
    intro ok w hok h
    have := hR w h
    rw [← hok] at this
    refine mif_ok (fun g => ?_) (fun g => ?_)
    · have : ok = false := by simpa using g
      subst this; simpa using this
    · have : ok = true := by simpa using g
      subst this; simpa using this
  have key1 : ∀ (ok : Bool) w, ok = (inB b.2.1 && (inB b.2.2.1 && inB b.2.2.2.1) && decide (b.2.1 ≤ 8) && decide (rs.length ≤ 64)) → SH o (vr a t_api_Batch k_api_Batch b :: Γ) w → batch_Check_1 R a ok w := by
    intro ok w hok h
    unfold batch_Check_1 batch_Check_6
    refine ld_fld h ?_
    unfold batch_Check_7
    refine loop_ok (fun (i : Nat) t w => t = (ok && (rs.take i).all mayRec, (i : Int), ()) ∧ i ≤ rs.length ∧ SH o (vr a t_api_Batch k_api_Batch b :: Γ) w) (fun i => rs.length - i) 0 ⟨by simp, by omega, h⟩ ?_
    rintro i _ w cont ⟨rfl, hi, h⟩ hc
    dsimp only
    refine mif_ok (fun g1 => ?_) (fun g1 => ?_)
    · have hlt : i < rs.length := by simp at g1; omega
      have hstep : (rs.take (i + 1)).all mayRec = ((rs.take i).all mayRec && mayRec rs[i]) := by
        rw [List.take_add_one, List.getElem?_eq_getElem hlt, List.all_append]; simp
      refine ixa_ok h (by omega) (by omega) fun e ea => ?_
      refine ld_el ea h (List.getElem?_eq_getElem hlt) ?_
      refine alo_ok h fun c w h => ?_
      refine sto_var h fun w h => ?_
      have go : ∀ (x : Bool) w, x = (ok && (rs.take (i + 1)).all mayRec) → SH o (vr c t_api_Record k_api_Record rs[i] :: vr a t_api_Batch k_api_Batch b :: Γ) w →
          batch_Check_9 cont R a x b.2.2.2.2.1 (b.2.2.2.2.1.len : Int) (i : Int) w := by
        intro x w hx h
        unfold batch_Check_9
        rw [w64_of (by omega) (by omega)]
        exact hc (i + 1) _ w (by omega) ⟨by rw [hx]; rfl, hlt, h.drop⟩
      refine mif_ok (fun g2 => ?_) (fun g2 => ?_)
      · refine ld_var h ?_
        refine may_ok h fun w h => ?_
        exact go _ w (by rw [hstep, ← Bool.and_assoc, g2, Bool.true_and]) h
      · exact go _ w (by rw [hstep, ← Bool.and_assoc, g2, Bool.false_and]) h
    · have hi' : i = rs.length := by simp at g1; omega
      subst hi'
      rw [List.take_length]
      generalize hok2 : (ok && rs.all mayRec) = ok2
      have fin : ∀ (x : Bool) w', (x = true ↔ ok2 = true ∧ ((b.1 = 1 ∧ 0 < rs.length ∧ (0 < b.2.1 ∧ 0 < b.2.2.1 ∨ b.2.1 = 0 ∧ b.2.2.1 = 0 ∧ b.2.2.2.1 = 0)) ∨ (b.1 = 2 ∧ 0 < rs.length ∧ 0 < b.2.1 ∧ 0 < b.2.2.1) ∨
          ((b.1 = 3 ∨ b.1 = 4) ∧ rs.length = 0 ∧ (0 < b.2.1 ∧ 0 < b.2.2.1) ∧ b.2.2.2.1 = 0))) → SH o (vr a t_api_Batch k_api_Batch b :: Γ) w' → batch_Check_5 R x w' := by
        intro x w' hx h
        refine key5 x w' ?_ h.drop
        rw [Bool.eq_iff_iff, hx, ← hok2, hok]
        simp only [bmay, bkind, inB, Bool.and_eq_true, decide_eq_true_eq]
        constructor
        · rintro ⟨⟨⟨⟨⟨h1, h2, h3⟩, h4⟩, h5⟩, h6⟩, h7⟩
          exact ⟨⟨⟨⟨⟨⟨h1.1, h4⟩, h2⟩, h3⟩, h5⟩, h6⟩, h7⟩
        · rintro ⟨⟨⟨⟨⟨⟨h1, h4⟩, h2⟩, h3⟩, h5⟩, h6⟩, h7⟩
          exact ⟨⟨⟨⟨⟨⟨h1, by omega⟩, h2, h3⟩, h4⟩, h5⟩, h6⟩, h7⟩
      clear key5 hok hok2 hR hc cont
      have key4 : ∀ (nn sm : Bool) w, (nn = true ↔ b.2.1 = 0 ∧ b.2.2.1 = 0 ∧ b.2.2.2.1 = 0) → (sm = true ↔ 0 < b.2.1 ∧ 0 < b.2.2.1) → SH o (vr a t_api_Batch k_api_Batch b :: Γ) w → batch_Check_4 R a ok2 nn sm w := by
        intro nn sm w hnn hsm h
        refine ld_fld0 h ?_
        refine mif_ok (fun g1 => ?_) (fun g1 => ?_) <;> simp at g1
        · refine mif_ok (fun g2 => ?_) (fun g2 => ?_)
          · refine ld_fld h ?_
            refine mif_ok (fun g3 => ?_) (fun g3 => ?_) <;> simp at g3
            · refine mif_ok (fun g4 => ?_) (fun g4 => ?_)
              · exact fin _ _ (by rw [hnn] at g4; simp [g2]; omega) h
              · exact fin _ _ (by rw [hsm]; have : ¬ (b.2.1 = 0 ∧ b.2.2.1 = 0 ∧ b.2.2.2.1 = 0) := by rw [← hnn]; simp [g4]
                                  simp only [g2, true_and]; omega) h
            · exact fin _ _ (by simp; omega) h
          · exact fin _ _ (by simp [g2]) h
        refine mif_ok (fun g1' => ?_) (fun g1' => ?_) <;> simp at g1'
        · refine mif_ok (fun g2 => ?_) (fun g2 => ?_)
          · refine ld_fld h ?_
            refine mif_ok (fun g3 => ?_) (fun g3 => ?_) <;> simp at g3
            · exact fin _ _ (by rw [hsm]; simp only [g2, true_and]; omega) h
            · exact fin _ _ (by simp; omega) h
          · exact fin _ _ (by simp [g2]) h
        have more : ∀ w, SH o (vr a t_api_Batch k_api_Batch b :: Γ) w → (b.1 = 3 ∨ b.1 = 4) → mif ok2 (ld P t_sl_api_Record (ad a 4) .sl fun (x17 : Sl) => mif ((x17.len : Int) == 0)
            (mif sm (ld P t_int (ad a 3) I fun (x18 : Int) => batch_Check_5 R (x18 == 0)) (batch_Check_5 R false)) (batch_Check_5 R false)) (batch_Check_5 R false) w := by
          intro w h g4
          refine mif_ok (fun g2 => ?_) (fun g2 => ?_)
          · refine ld_fld h ?_
            refine mif_ok (fun g3 => ?_) (fun g3 => ?_) <;> simp at g3
            · refine mif_ok (fun g5 => ?_) (fun g5 => ?_)
              · refine ld_fld h ?_
                exact fin _ _ (by rw [hsm] at g5; rw [beq_iff_eq]; simp only [g2, true_and]; omega) h
              · exact fin _ _ (by have : ¬ (0 < b.2.1 ∧ 0 < b.2.2.1) := by rw [← hsm]; simp [g5]
                                  simp only [Bool.false_eq_true, false_iff]; omega) h
            · exact fin _ _ (by simp only [Bool.false_eq_true, false_iff]; omega) h
          · exact fin _ _ (by simp [g2]) h
        refine mif_ok (fun g3 => ?_) (fun g3 => ?_)
        · rw [g3]; exact more w h (.inl (by simpa using g3))
        · refine mif_ok (fun g4 => ?_) (fun g4 => ?_)
          · exact more w h (.inr (by simpa using g4))
          · exact fin _ _ (by simp at g3 g4; simp only [Bool.false_eq_true, false_iff]; omega) h
      have key3 : ∀ (nn : Bool) w, (nn = true ↔ b.2.1 = 0 ∧ b.2.2.1 = 0 ∧ b.2.2.2.1 = 0) → SH o (vr a t_api_Batch k_api_Batch b :: Γ) w → batch_Check_3 R a ok2 nn w := by
        intro nn w hnn h
        refine ld_fld h ?_
        refine mif_ok (fun g1 => ?_) (fun g1 => ?_) <;> simp at g1
        · refine ld_fld h ?_
          exact key4 _ _ _ hnn (by rw [decide_eq_true_iff]; omega) h
        · exact key4 _ _ _ hnn (by simp only [Bool.false_eq_true, false_iff]; omega) h
      refine ld_fld h ?_
      refine mif_ok (fun g1 => ?_) (fun g1 => ?_) <;> simp at g1
      · refine ld_fld h ?_
        refine mif_ok (fun g2 => ?_) (fun g2 => ?_) <;> simp at g2
        · refine ld_fld h ?_
          exact key3 _ _ (by rw [beq_iff_eq]; omega) h
        · exact key3 _ _ (by simp only [Bool.false_eq_true, false_iff]; omega) h
      · exact key3 _ _ (by simp only [Bool.false_eq_true, false_iff]; omega) h
  refine mif_ok (fun g1 => ?_) (fun g1 => ?_)
  · refine ld_fld h ?_
    refine mif_ok (fun g2 => ?_) (fun g2 => ?_)
    · refine ld_fld h ?_
      refine key1 _ w ?_ h
      have e : decide ((rs.length : Int) ≤ 64) = decide (rs.length ≤ 64) := by rw [decide_eq_decide]; omega
      rw [g1, hlen, e]; simp at g2; simp [g2]
    · refine key1 _ w ?_ h
      simp at g2; simp; omega
  · refine key1 _ w ?_ h
    simp only [g1, Bool.false_and]
end
end Go.Proofs.YtegjokkkdkaphaaGreatDoor
/- Contracts: batches as bytes. -/
namespace Go.Proofs.YtegjokkkdkaphaaGreatDoor
open Go Go.W
set_option maxRecDepth 100000

section
variable {o : Fix} {Γ Δ : List Assn} {w : World}

theorem PutRecord_ok {R : Bs → World → Prop} {r : Rec} (hm : mayRec r = true) (h : SH o Γ w) (hR : ∀ w', SH o Γ w' → R (encRec r) w') : mcall P n_batch_PutRecord [KV k_api_Record r] .s R w := by
  apply batch_PutRecord_call
  obtain ⟨h1, h2, h3⟩ := mayRec_spec hm
  have hI : ∀ n ∈ [r.1, r.2.1], I64 n := by intro n hn; simp at hn; rcases hn with rfl | rfl <;> constructor <;> omega
  refine bx_ok h fun a w h => ?_
  refine mdraw_ok h fun w h => ?_
  refine ld_fld0 h ?_
  refine ld_fld h ?_
  refine ld_fld h ?_
  refine bsl_ok h fun x w h => ?_
  refine mst_fld h ?_
  refine PutAll_ok h hI (by simp) fun w h => ?_
  refine mst_fld h ?_
  refine PutText_ok (by omega) h fun w h => ?_
  have g1 := encRec_len hm
  unfold encRec at g1
  rw [List.length_append] at g1
  refine mcat_ok (by omega) ?_
  exact hR w h.drop.drop

/-- What TakeRecord tells. -/
def takeRecR (s : Bs) : Rec × Bs × Int × Unit := match takeRec s with | some (x, r) => (x, r, 0, ()) | none => ((0, 0, [], ()), [], 2, ())
theorem takeRecR_some {s r : Bs} {x : Rec} (h : takeRec s = some (x, r)) : takeRecR s = (x, r, 0, ()) := by unfold takeRecR; rw [h]
theorem takeRecR_none {s : Bs} (h : takeRec s = none) : takeRecR s = ((0, 0, [], ()), [], 2, ()) := by unfold takeRecR; rw [h]
theorem TakeRecord_ok {R : (T_api_Record × Bs × Int × Unit) → World → Prop} {s : Bs} (hs : s.length ≤ 1099511620000) (h : SH o Γ w) (hR : ∀ w', SH o Γ w' → R (takeRecR s) w') :
    mcall P n_batch_TakeRecord [(.string ⟨s.toArray⟩)] (.tup [k_api_Record, .s, I]) R w := by
  apply batch_TakeRecord_call
  refine alo_ok h fun a w h => ?_
  have no : ∀ {w'} (hn : takeRec s = none), SH o (vr a t_api_Record k_api_Record (0, 0, [], ()) :: Γ) w' →
      sto P t_api_Record a k_api_Record (0, 0, [], ()) (ld P t_api_Record a k_api_Record fun (x3 : T_api_Record) => R (x3, [], 2, ())) w' := fun hn h => by
    refine sto_var h fun w h => ?_
    refine ld_var h ?_
    have := hR w h.drop
    rwa [takeRecR_none hn] at this
  refine TakeAll_ok (n := 2) (by omega) (by omega) h (fun l xs r w e3 h => ?_) (fun w e3 h => ?_)
  · obtain ⟨hx1, hx2, hx3⟩ := takeAll_len _ _ _ _ e3
    obtain ⟨x, y, rfl⟩ : ∃ x y, xs = [x, y] := by
      match xs, hx1 with
      | [x, y], _ => exact ⟨x, y, rfl⟩
    refine mif_ok (fun g4 => ?_) (fun g4 => ?_)
    · simp at g4
    refine TakeText_ok (by simp only; omega) h fun w h => ?_
    cases e4 : ttext r 512 with
    | none =>
      have hn : takeRec s = none := by unfold takeRec; rw [e3]; simp only []; rw [e4]
      dsimp only
      rw [ttextR_none e4]
      refine alo_ok h fun a5 w h => ?_
      refine sto_var h fun w h => ?_
      refine mif_ok (fun g1 => ?_) (fun g1 => ?_)
      · simp at g1
      refine mif_ok (fun g1 => ?_) (fun g1 => ?_)
      · exact no hn h.to
      · simp at g1
    | some z =>
      obtain ⟨t, r2⟩ := z
      have ht : takeRec s = match mayRec (x, y, t, ()) with | true => some ((x, y, t, ()), r2) | false => none := by unfold takeRec; rw [e3]; simp only []; rw [e4]; rfl
      dsimp only
      rw [ttextR_some e4]
      refine alo_ok h fun a5 w h => ?_
      refine sto_var h fun w h => ?_
      have hlen := h.len (s := l)
      simp only [List.length_cons, List.length_nil] at hlen
      refine mif_ok (fun g1 => ?_) (fun g1 => ?_)
      · refine mdraw_ok h fun w h => ?_
        refine ixa_ok h (by omega) (by omega) fun p0 ea0 => ?_
        refine ld_el ea0 h rfl ?_
        refine ixa_ok h (by omega) (by omega) fun p1 ea1 => ?_
        refine ld_el ea1 h rfl ?_
        refine sto_var h fun w h => ?_
        refine mif_ok (fun g2 => ?_) (fun g2 => ?_)
        · simp at g2
        refine ld_var h ?_
        refine may_ok h fun w h => ?_
        cases hm : mayRec (x, y, t, ()) with
        | true =>
          rw [hm] at ht
          refine mif_ok (fun g3 => ?_) (fun g3 => ?_)
          · simp at g3
          refine ld_var h ?_
          refine sto_var h fun w h => ?_
          refine ld_var h ?_
          have := hR w h.to
          rw [takeRecR_some ht] at this
          exact this
        | false =>
          rw [hm] at ht
          refine mif_ok (fun g3 => ?_) (fun g3 => ?_)
          · exact no ht h.to
          · simp at g3
      · simp at g1
  · refine mif_ok (fun g4 => ?_) (fun g4 => ?_)
    · exact no (by unfold takeRec; rw [e3]) h
    · simp at g4

theorem Encode_ok {R : (Bs × Int × Unit) → World → Prop} {b : T_api_Batch} {rs : List Rec} (h : SH o Γ w) [hr : RdS b.2.2.2.2.1 k_api_Record rs Γ] (hl : rs.length ≤ 9223372036854775807)
    (hR : ∀ w', SH o Γ w' → R (if bmay b.1 b.2.1 b.2.2.1 b.2.2.2.1 rs then (encB b.1 b.2.1 b.2.2.1 b.2.2.2.1 rs, 0, ()) else ([], 1, ())) w') : mcall P n_batch_Encode [KV k_api_Batch b] (.tup [.s, I]) R w := by
  apply batch_Encode_call
  have hlen := h.len (s := b.2.2.2.2.1)
  refine bx_ok h fun a w h => ?_
  refine ld_var h ?_
  refine bCheck_ok h hl fun w h => ?_
  cases hb : bmay b.1 b.2.1 b.2.2.1 b.2.2.2.1 rs with
  | false =>
    refine mif_ok (fun g1 => ?_) (fun g1 => ?_)
    · have := hR w h.drop; rw [hb] at this; simpa using this
    · simp at g1
  | true =>
    obtain ⟨h1, h2, h3, h4, h5, h6⟩ := bmay_spec hb
    have hk := bkind_k h6
    have hI : ∀ n ∈ [b.1, b.2.1, b.2.2.1, b.2.2.2.1, (rs.length : Int)], I64 n := by intro n hn; simp at hn; rcases hn with rfl | rfl | rfl | rfl | rfl <;> constructor <;> omega
    have hpl := putAll_len hI
    simp only [List.length_cons, List.length_nil] at hpl
    refine mif_ok (fun g1 => ?_) (fun g1 => ?_)
    · simp at g1
    refine alo_ok h fun c w h => ?_
    have h := bld_new (tE := t_uint8) h
    refine ld_fld0 h ?_
    refine ld_fld h ?_
    refine ld_fld h ?_
    refine ld_fld h ?_
    refine ld_fld h ?_
    rw [hlen]
    refine bsl_ok h fun x w h => ?_
    refine PutAll_ok h hI (by simp) fun w h => ?_
    refine WriteString_ok (bs := []) h (by simp; omega) fun r w h => ?_
    rw [List.nil_append] at h
    have h : SH o (bld c (putAll [b.1, b.2.1, b.2.2.1, b.2.2.2.1, (rs.length : Int)]) :: vr a t_api_Batch k_api_Batch b :: Γ) w := h.to
    unfold batch_Encode_1 batch_Encode_3
    refine ld_fld h ?_
    unfold batch_Encode_4
    refine loop_ok (fun (i : Nat) t w => t = ((i : Int), ()) ∧ i ≤ rs.length ∧ SH o (bld c (putAll [b.1, b.2.1, b.2.2.1, b.2.2.2.1, (rs.length : Int)] ++ encRecs (rs.take i)) :: vr a t_api_Batch k_api_Batch b :: Γ) w) (fun i => rs.length - i) 0
      ⟨rfl, by omega, by simpa [encRecs] using h⟩ ?_
    rintro i _ w cont ⟨rfl, hi, h⟩ hc
    dsimp only
    have hel := encRecs_len (rs := rs.take i) fun x hx => h5 x (List.mem_of_mem_take hx)
    rw [List.length_take] at hel
    refine mif_ok (fun g1 => ?_) (fun g1 => ?_)
    · have hlt : i < rs.length := by simp at g1; omega
      refine ixa_ok h (by omega) (by omega) fun e ea => ?_
      refine ld_el ea h (List.getElem?_eq_getElem hlt) ?_
      refine alo_ok h fun d w h => ?_
      refine sto_var h fun w h => ?_
      refine ld_var h ?_
      have hmr := h5 rs[i] (List.getElem_mem hlt)
      have hrl := encRec_len hmr
      refine PutRecord_ok hmr h fun w h => ?_
      refine WriteString_ok h (by rw [List.length_append]; omega) fun r w h => ?_
      rw [w64_of (by omega) (by omega)]
      refine hc (i + 1) _ w (by omega) ⟨rfl, hlt, ?_⟩
      have e1 : encRecs (rs.take (i + 1)) = encRecs (rs.take i) ++ encRec rs[i] := by
        simp only [encRecs, List.take_add_one, List.getElem?_eq_getElem hlt, Option.toList, List.flatMap_append, List.flatMap_cons, List.flatMap_nil, List.append_nil]
      rw [e1, ← List.append_assoc]
      exact h.to
    · have hi' : i = rs.length := by simp at g1; omega
      subst hi'
      rw [List.take_length] at h
      refine BString_ok h (by rw [List.take_length] at hel; rw [List.length_append]; omega) fun w h => ?_
      have := hR w h.drop
      rw [hb] at this
      simpa [encB] using this

/-- Decode. -/
theorem Decode_ok {R : (T_api_Batch × Int × Unit) → World → Prop} {s : Bs} (hs : s.length ≤ 1099511620000) (h : SH o Γ w)
    (hR : ∀ l k p e q rs w', decB s = some (k, p, e, q, rs) → SH o (slO l t_api_Record k_api_Record rs :: Γ) w' → R ((k, p, e, q, l, ()), 0, ()) w')
    (hN : ∀ w', decB s = none → SH o Γ w' → R ((0, 0, 0, 0, ⟨none, 0, 0⟩, ()), 2, ()) w') : mcall P n_batch_Decode [(.string ⟨s.toArray⟩)] (.tup [k_api_Batch, I]) R w := by
  apply batch_Decode_call
  refine alo_ok h fun a w h => ?_
  have no : ∀ {w'} (hn : decB s = none), SH o (vr a t_api_Batch k_api_Batch (0, 0, 0, 0, ⟨none, 0, 0⟩, ()) :: Γ) w' →
      sto P t_api_Batch a k_api_Batch (0, 0, 0, 0, ⟨none, 0, 0⟩, ()) (ld P t_api_Batch a k_api_Batch fun (x3 : T_api_Batch) => R (x3, 2, ())) w' := fun hn h => by
    refine sto_var h fun w h => ?_
    refine ld_var h ?_
    exact hN w hn h.drop
  refine TakeAll_ok (n := 5) (by omega) (by omega) h (fun l xs r w e3 h => ?_) (fun w e3 h => ?_)
  · obtain ⟨hx1, hx2, hx3⟩ := takeAll_len _ _ _ _ e3
    obtain ⟨k, p, e, q, n, rfl⟩ : ∃ k p e q n, xs = [k, p, e, q, n] := by
      match xs, hx1 with
      | [k, p, e, q, n], _ => exact ⟨k, p, e, q, n, rfl⟩
    have hlen := h.len (s := l)
    simp only [List.length_cons, List.length_nil] at hlen
    refine mif_ok (fun g4 => ?_) (fun g4 => ?_)
    · simp at g4
    dsimp only
    refine ixa_ok h (by omega) (by omega) fun p4 ea4 => ?_
    refine ld_el ea4 h rfl ?_
    refine mif_ok (fun g5 => ?_) (fun g5 => ?_)
    · exact no (by unfold decB; rw [e3]; simp only []; rw [if_pos (.inl (by simpa using g5))]) h.to
    refine ixa_ok h (by omega) (by omega) fun p4' ea4' => ?_
    refine ld_el ea4' h rfl ?_
    refine mif_ok (fun g6 => ?_) (fun g6 => ?_)
    · exact no (by unfold decB; rw [e3]; simp only []; rw [if_pos (.inr (by simpa using g6))]) h.to
    have hn0 : ¬ (n < 0 ∨ 64 < n) := by simp at g5 g6; omega
    have hd : decB s = match takeRecs n.toNat r with | some (rs, []) => (match bmay k p e q rs with | true => some (k, p, e, q, rs) | false => none) | _ => none := by
      unfold decB; rw [e3]; simp only []; rw [if_neg hn0]; rfl
    refine mdraw_ok h fun w h => ?_
    refine ixa_ok h (by omega) (by omega) fun p0 ea0 => ?_
    refine ld_el ea0 h rfl ?_
    refine ixa_ok h (by omega) (by omega) fun p1 ea1 => ?_
    refine ld_el ea1 h rfl ?_
    refine ixa_ok h (by omega) (by omega) fun p2 ea2 => ?_
    refine ld_el ea2 h rfl ?_
    refine ixa_ok h (by omega) (by omega) fun p3 ea3 => ?_
    refine ld_el ea3 h rfl ?_
    refine alo_ok h fun c w h => ?_
    refine mst_el ea3 h rfl ?_
    refine mst_ixa h ea3 (by omega) (by omega) ?_
    refine mst_el ea2 h rfl ?_
    refine mst_ixa h ea2 (by omega) (by omega) ?_
    refine mst_el ea1 h rfl ?_
    refine mst_ixa h ea1 (by omega) (by omega) ?_
    refine mst_el ea0 h rfl ?_
    refine mst_ixa h ea0 (by omega) (by omega) ?_
    refine sto_var h fun w h => ?_
    unfold batch_Decode_1 batch_Decode_3
    refine ixa_ok h (by omega) (by omega) fun p4 ea4 => ?_
    refine ld_el ea4 h rfl ?_
    have h := h.nilS t_api_Record k_api_Record
    have h : SH o (slO ⟨none, 0, 0⟩ t_api_Record k_api_Record [] :: vr c t_api_Batch k_api_Batch (k, p, e, q, ⟨none, 0, 0⟩, ()) :: vr a t_api_Batch k_api_Batch (0, 0, 0, 0, ⟨none, 0, 0⟩, ()) :: Γ) w := h.to
    unfold batch_Decode_4
    refine loop_ok (fun (g : List Rec × Bs) t w => ∃ u, t = (g.2, (g.1.length : Int), ()) ∧ (g.1.length : Int) ≤ n ∧ g.2.length ≤ r.length ∧
        SH o (slO u t_api_Record k_api_Record g.1 :: vr c t_api_Batch k_api_Batch (k, p, e, q, u, ()) :: vr a t_api_Batch k_api_Batch (0, 0, 0, 0, ⟨none, 0, 0⟩, ()) :: Γ) w ∧
        takeRecs n.toNat r = (match takeRecs (n.toNat - g.1.length) g.2 with | some (ys, r') => some (g.1 ++ ys, r') | none => none)) (fun g => n.toNat - g.1.length) ([], r)
      ⟨_, rfl, by simp; omega, by simp, h, by simp; cases takeRecs n.toNat r <;> rfl⟩ ?_
    rintro ⟨ys, r1⟩ _ w cont ⟨u, rfl, hi, hr1, h, ht⟩ hc
    simp only at hi hr1 h ht
    dsimp only
    refine mif_ok (fun g1 => ?_) (fun g1 => ?_)
    · have hlt : ys.length < n.toNat := by simp at g1; omega
      obtain ⟨m, hm⟩ : ∃ m, n.toNat - ys.length = m + 1 := ⟨n.toNat - ys.length - 1, by omega⟩
      rw [hm, takeRecs] at ht
      refine TakeRecord_ok (by omega) h fun w h => ?_
      cases e5 : takeRec r1 with
      | none =>
        rw [e5] at ht
        rw [takeRecR_none e5]
        refine alo_ok h fun d w h => ?_
        refine sto_var h fun w h => ?_
        refine mif_ok (fun g2 => ?_) (fun g2 => ?_)
        · exact no (by rw [hd, ht]) h.to
        · simp at g2
      | some z =>
        obtain ⟨x, r2⟩ := z
        have hz := takeRec_len e5
        rw [e5] at ht
        rw [takeRecR_some e5]
        refine alo_ok h fun d w h => ?_
        refine sto_var h fun w h => ?_
        refine mif_ok (fun g2 => ?_) (fun g2 => ?_)
        · simp at g2
        refine ld_fld h ?_
        refine ld_var h ?_
        refine bsl_ok h fun u2 w h => ?_
        refine app_ok h (by simp; omega) (fun y _ => okV_plain rfl y) fun u3 w h => ?_
        refine sto_fld h fun w h => ?_
        rw [w64_of (by omega) (by omega)]
        refine hc (ys ++ [x], r2) _ w (by simp; omega) ⟨u3, by simp, by simp; omega, by simp only; omega, h.to, ?_⟩
        simp only [List.length_append, List.length_cons, List.length_nil]
        rw [ht, show n.toNat - (ys.length + 1) = m by omega]
        simp only []
        cases takeRecs m r2 with
        | none => rfl
        | some z => simp
    · have hi' : ys.length = n.toNat := by simp at g1; omega
      have ht : takeRecs n.toNat r = some (ys, r1) := by rw [ht, show n.toNat - ys.length = 0 by omega]; simp [takeRecs]
      rw [ht] at hd
      refine mif_ok (fun g2 => ?_) (fun g2 => ?_)
      · have : r1 ≠ [] := by simpa using g2
        exact no (by rw [hd]; cases r1 with
                     | nil => exact absurd rfl this
                     | cons x y => rfl) h.to
      · have : r1 = [] := by simpa using g2
        subst this
        refine ld_var h ?_
        refine bCheck_ok h (by omega) fun w h => ?_
        simp only at hd
        cases hb : bmay k p e q ys with
        | true =>
          rw [hb] at hd
          refine mif_ok (fun g3 => ?_) (fun g3 => ?_)
          · simp [hb] at g3
          refine ld_var h ?_
          refine sto_var h fun w h => ?_
          refine ld_var h ?_
          exact hR u k p e q ys w hd h.to
        | false =>
          rw [hb] at hd
          refine mif_ok (fun g3 => ?_) (fun g3 => ?_)
          · exact no hd h.to
          · simp [hb] at g3
  · refine mif_ok (fun g4 => ?_) (fun g4 => ?_)
    · exact no (by unfold decB; rw [e3]) h
    · simp at g4
end
end Go.Proofs.YtegjokkkdkaphaaGreatDoor
