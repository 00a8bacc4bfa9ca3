/- Part of the proof's own library: sound rules for the short texts of functions, for every program. No condition. -/
import Derived.Test.YtpjhflboedicpaaGreatDoorLa
import Derived.ScopeJumps
import Derived.KernelRfl
import Derived.Deep.AppendSrc
import Derived.Deep.MidRow
set_option linter.unusedVariables false
set_option linter.unusedSimpArgs false
namespace Go.W
open Go
theorem count_set (l : List Bool) : ∀ i, l[i]? = some false → (l.set i true).count false + 1 = l.count false := by
  induction l with
  | nil => intro i h; simp at h
  | cons b l ih =>
    intro i h
    cases i with
    | zero => simp at h; subst h; simp
    | succ i => simp at h; have := ih i h; simp only [List.set_cons_succ, List.count_cons]; omega
section
variable {P : Program} {Q : Exit → Act → World → Prop} {ops : Array Oper}
abbrev MM (ops : Array Oper) : List Nat := masks ops.toList []
abbrev FF (P : Program) (ops : Array Oper) : List Bool := loudFlags P ops.toList (MM ops) ops.toList 0
theorem quiet_spec {i : Nat} {o : Oper} (ho : ops[i]? = some o) (hf : (FF P ops).getD i true = false) : ∃ d, o.dst = some d ∧ lonely ops.toList (MM ops) i d ops.toList 0 = true := by
  have h := loudFlags_get (P := P) (ops := ops.toList) (M := MM ops) ops.toList 0 i o (by simpa using ho)
  rw [List.getD_eq_getElem?_getD, h] at hf
  simp only [Option.getD_some, Nat.zero_add] at hf
  cases hk : kindLoud P o.op with
  | true => simp [hk] at hf
  | false =>
    simp only [hk] at hf
    cases hd : o.dst with
    | none => simp [hd] at hf
    | some d => simp only [hd, Bool.not_eq_false'] at hf; exact ⟨d, rfl, hf⟩
theorem quiet_kind {i : Nat} {o : Oper} (ho : ops[i]? = some o) (hf : (FF P ops).getD i true = false) : kindLoud P o.op = false := by
  have h := loudFlags_get (P := P) (ops := ops.toList) (M := MM ops) ops.toList 0 i o (by simpa using ho)
  rw [List.getD_eq_getElem?_getD, h] at hf
  simp only [Option.getD_some, Nat.zero_add] at hf
  cases hk : kindLoud P o.op with
  | true => simp [hk] at hf
  | false => rfl
theorem semAt_w {ro : Option Nat} {i : Nat} {o : Oper} {r : Operand → Value} (ho : ops[i]? = some o) (hf : (FF P ops).getD i true = false) : o.semAt (Fw ro).round r = execOp r o := by
  cases ro with
  | none => rfl
  | some l => exact Oper.semAt_some l _ o fun c e => by have := quiet_kind ho hf; rw [e] at this; cases this
theorem quiet_reads {i j : Nat} {o o' : Oper} {d : Tmp} (ho : ops[i]? = some o) (hf : (FF P ops).getD i true = false) (hd : o.dst = some d) (ho' : ops[j]? = some o')
    (hr : d ∈ readsOf ops.toList o') : ((MM ops).getD j 0).testBit i = true := by
  obtain ⟨d', hd', hl⟩ := quiet_spec ho hf
  rw [hd] at hd'; cases hd'
  have h := lonely_spec ops.toList 0 hl j o' (by simpa using ho')
  simp only [Nat.zero_add] at h
  by_cases e : j = i
  · exact absurd hr (h.1 e)
  · exact (h.2 e).1 hr
theorem quiet_dst {i j : Nat} {o o' : Oper} {d : Tmp} (ho : ops[i]? = some o) (hf : (FF P ops).getD i true = false) (hd : o.dst = some d) (ho' : ops[j]? = some o') (hne : j ≠ i) : o'.dst ≠ some d := by
  obtain ⟨d', hd', hl⟩ := quiet_spec ho hf
  rw [hd] at hd'; cases hd'
  have h := lonely_spec ops.toList 0 hl j o' (by simpa using ho')
  simp only [Nat.zero_add] at h
  exact (h.2 hne).2
theorem dst_put {env : Env} {d : Option Tmp} {v : Value} {t : Nat} (h : d ≠ some t) : (putE env d v)[t]? = env[t]? := by
  cases d with
  | none => rfl
  | some d => simp only [putE]; rw [List.getElem?_set_ne (by intro e; exact h (by rw [e]))]
theorem put_len {env : Env} {d : Option Tmp} {v : Value} : (putE env d v).length = env.length := by cases d <;> simp [putE]
variable {wl : Watch} {C : Nat} {L : Nat → Bool} {env : Env} {a : Act} {w : World} {I : Act → Prop} {K : Env → World → Prop} {full : Nat}
theorem DI.inL (h : DI P ops wl C L env a w) {i : Nat} {o : Oper} (ho : ops[i]? = some o) (hb : ∀ e ∈ o.after.toList, Region.binds .any e = true → e.on < i)
    (hr : ∀ e ∈ o.after.toList, Region.binds .any e = true → L e.on = true) (j : Nat) (hj : ((MM ops).getD i 0).testBit j = true) : L j = true := by
  have hi : i < ops.size := (Array.getElem?_eq_some_iff.1 ho).1
  obtain ⟨e, he, hbd, rfl | hx⟩ := (mask_iff (l := ops.toList) (by simpa using ho) hb j).1 hj
  · exact hr e he hbd
  · exact h.closed e.on (by have := hb e he hbd; omega) (hr e he hbd) j hx
theorem DI.agree (h : DI P ops wl C L env a w) {i : Nat} {o : Oper} (ho : ops[i]? = some o) (hm : ∀ j, ((MM ops).getD i 0).testBit j = true → L j = true) :
    ∀ t ∈ readsOf ops.toList o, ∀ u, env[t]? = some (some u) → a.tmps[t]? = some u := by
  intro t ht u hu
  rcases h.val t u hu with ⟨j, o', ho', hc, hl, hd⟩ | hv
  · obtain ⟨_, d, v, os, hq, hd', hf, _⟩ := (h.pend j hc hl).q
    rw [hq] at ho'; cases ho'
    have := hm j (quiet_reads hq hf hd ho ht)
    rw [this] at hl; cases hl
  · exact hv
theorem absorb : ∀ (f : Nat) (C : Nat) (wl : Watch) (env : Env), DI P ops wl C L env a w →
    drawW P ops.toList (MM ops) (FF P ops) full K f C wl env w →
    ∃ f' C' wl' env', DI P ops wl' C' L env' a w ∧ drawW P ops.toList (MM ops) (FF P ops) full K (f' + 1) C' wl' env' w ∧ firstQ (MM ops) (FF P ops) C' ops.toList 0 = none := by
  intro f
  induction f with
  | zero => intro C wl env _ h; exact h.elim
  | succ f ih =>
    intro C wl env hI h
    cases hq : firstQ (MM ops) (FF P ops) C ops.toList 0 with
    | none => exact ⟨f, C, wl, env, hI, h, hq⟩
    | some io =>
      obtain ⟨i, o⟩ := io
      have h' := h
      unfold drawW at h'
      simp only [hq] at h'
      obtain ⟨_, ho', hf, hr⟩ := firstQ_some _ _ _ _ hq
      have ho : ops[i]? = some o := by simpa using ho'
      have hi : i < ops.size := (Array.getElem?_eq_some_iff.1 ho).1
      obtain ⟨hci, hm⟩ := readyI_iff.1 hr
      obtain ⟨d, hd, _⟩ := quiet_spec (P := P) ho hf
      have hLi : L i = false := by
        cases hl : L i with
        | false => rfl
        | true => rw [hI.sub i hi hl] at hci; cases hci
      have hCi : ∀ j, (C ||| (1 <<< i)).testBit j = true ↔ C.testBit j = true ∨ j = i := fun j => or_bit C i j
      -- the next state, whatever the value
      have key : ∀ (os : Option (Sem Value)) (v : Value), condOf P os v w → (∀ w, condOf P os v w → Yld P ops o env w v) →
          DI P ops (addW os i v wl) (C ||| (1 <<< i)) L (putE env o.dst v) a w := by
        intro os v hcond hy
        have hnr : ∀ j o', ops[j]? = some o' → (∀ x, ((MM ops).getD j 0).testBit x = true → C.testBit x = true) → d ∉ readsOf ops.toList o' := by
          intro j o' hj hx hmem
          rw [hx i (quiet_reads ho hf hd hj hmem)] at hci; cases hci
        refine ⟨fun j hj hl => (hCi j).2 (.inl (hI.sub j hj hl)), fun j hj => ?_, hI.closed, by rw [put_len]; exact hI.len, fun t u ht => ?_, fun j hj hl => ?_, fun x hx => ?_⟩
        · rcases (hCi j).1 hj with hj | rfl
          · exact hI.cin j hj
          · exact hi
        · by_cases e : t = d
          · subst e; exact .inl ⟨i, o, ho, (hCi i).2 (.inr rfl), hLi, hd⟩
          · rw [dst_put (by rw [hd]; intro e'; cases e'; exact e rfl)] at ht
            rcases hI.val t u ht with ⟨j, o', h1, h2, h3⟩ | hv
            · exact .inl ⟨j, o', h1, (hCi j).2 (.inl h2), h3⟩
            · exact .inr hv
        · by_cases e : j = i
          · subst e
            refine ⟨o, d, v, os, ho, hd, hf, fun hlt => ?_, fun x hx => (hCi x).2 (.inl (hm x hx)), hcond, fun w hw => ?_, ?_⟩
            · rw [hd]; simp only [putE]; rw [put_len] at hlt; simp [hlt]
            · exact (hy w hw).env fun t ht => dst_put (by rw [hd]; intro e'; cases e'; exact hnr j o ho hm ht)
            · cases os with
              | none => exact .inl rfl
              | some s => exact .inr ⟨s, rfl, by simp [addW]⟩
          · have hj' : C.testBit j = true := ((hCi j).1 hj).resolve_right e
            obtain ⟨o', d', v', os', h1, h2, h3, h4, h5, h6, h7, h8⟩ := (hI.pend j hj' hl).q
            refine ⟨o', d', v', os', h1, h2, h3, fun hlt => ?_, fun x hx => (hCi x).2 (.inl (h5 x hx)), h6, fun w hw => ?_, ?_⟩
            · rw [dst_put (quiet_dst h1 h3 h2 ho (fun e' => e e'.symm))]; exact h4 (by rw [put_len] at hlt; exact hlt)
            · exact (h7 w hw).env fun t ht => dst_put (by rw [hd]; intro e'; cases e'; exact hnr j o' h1 h5 ht)
            · rcases h8 with h8 | ⟨s, hs, hmem⟩
              · exact .inl h8
              · refine .inr ⟨s, hs, ?_⟩
                cases os with
                | none => exact hmem
                | some s' => exact List.mem_cons_of_mem _ hmem
        · cases os with
          | none => exact hI.wat x hx
          | some s' =>
            rcases List.mem_cons.1 hx with rfl | hx
            · exact hcond
            · exact hI.wat x hx
      rcases guard_all h' with ⟨hy, hw⟩ | ⟨hn, hw⟩
      · cases hok : okE env o.op with
        | false => simp [hok] at hy
        | true =>
          simp only [hok] at hy
          obtain ⟨os, v, hk, hcond, hrun⟩ := qwp_spec (cls_ran o (ρ env)) hy
          refine ih _ _ _ (key os v hcond fun w hc a' ha' => .inl ⟨hw _ fun g want d' hg hd' u hu => ha' d' (guard_reads hg (by simpa using hd')) u hu, ?_⟩) hk
          rw [exec_eq hok ?_ fun x hx v hv => eval_of_reads ha' hx hv]
          · exact hrun w hc
          · intro cs b e
            rw [cls_select e] at hy; exact hy.elim
      · exact ih _ _ _ (key none undef trivial fun w _ a' ha' => .inr ⟨hw _ fun g want d' hg hd' u hu => ha' d' (guard_reads hg (by simpa using hd')) u hu, rfl⟩) hn
theorem stays_spec {k : World → Prop} : ∀ {wl : Watch}, stays P wl k w → (∀ x ∈ wl, x.2.1.run P w = .ok x.2.2 w) ∧ k w
  | [], h => ⟨by simp, h⟩
  | x :: l, h => by
    obtain ⟨h1, h2⟩ := stays_spec (wl := l) h.2
    exact ⟨fun y hy => by rcases List.mem_cons.1 hy with rfl | hy; exact h.1; exact h1 y hy, h2⟩
theorem dropW_mem {m : Nat} : ∀ {wl : Watch} {x : Nat × Sem Value × Value}, x ∈ wl → m.testBit x.1 = false → x ∈ dropW m wl
  | y :: l, x, h, hm => by
    unfold dropW
    rcases List.mem_cons.1 h with rfl | h
    · rw [hm]; exact List.mem_cons_self ..
    · cases m.testBit y.1
      · exact List.mem_cons_of_mem _ (dropW_mem h hm)
      · exact dropW_mem h hm
theorem dropW_sub {m : Nat} : ∀ {wl : Watch} {x : Nat × Sem Value × Value}, x ∈ dropW m wl → x ∈ wl
  | y :: l, x, h => by
    unfold dropW at h
    cases hb : m.testBit y.1 with
    | true => simp only [hb] at h; exact List.mem_cons_of_mem _ (dropW_sub h)
    | false =>
      simp only [hb] at h
      rcases List.mem_cons.1 h with rfl | h
      · exact List.mem_cons_self ..
      · exact List.mem_cons_of_mem _ (dropW_sub h)
theorem DI.loud (h : DI P ops wl C L env a w) {i : Nat} {o : Oper} (ho : ops[i]? = some o) (hC : C.testBit i = false)
    (hm : ∀ j, ((MM ops).getD i 0).testBit j = true → L j = true) (hap : ∀ d, o.dst = some d → apartFrom ops.toList (MM ops) (FF P ops) i ((MM ops).getD i 0) d ops.toList 0 = true)
    {v : Value} {w' : World} (hst : ∀ x ∈ dropW ((MM ops).getD i 0) wl, x.2.1.run P w' = .ok x.2.2 w') :
    DI P ops (dropW ((MM ops).getD i 0) wl) (C ||| (1 <<< i)) (fun j => L j || decide (j = i)) (putE env o.dst v) (a.put o.dst v) w' := by
  have hi : i < ops.size := (Array.getElem?_eq_some_iff.1 ho).1
  have hCi : ∀ j, (C ||| (1 <<< i)).testBit j = true ↔ C.testBit j = true ∨ j = i := fun j => or_bit C i j
  refine ⟨fun j hj hl => ?_, fun j hj => ?_, fun j hj hl x hx => ?_, by rw [put_len, h.len]; cases o.dst <;> simp [Act.put], fun t u ht => ?_, fun j hj hl => ?_, hst⟩
  · simp at hl; exact (hCi j).2 (hl.imp (h.sub j hj) id)
  · rcases (hCi j).1 hj with hj | rfl
    · exact h.cin j hj
    · exact hi
  · simp at hl ⊢
    rcases hl with hl | rfl
    · exact .inl (h.closed j hj hl x hx)
    · exact .inl (hm x hx)
  · by_cases e : o.dst = some t
    · refine .inr ?_
      rw [e] at ht ⊢
      rcases put_get ht with ⟨_, rfl, hl⟩ | ⟨hne, _⟩
      · simp [Act.put, ← h.len, hl]
      · exact absurd rfl hne
    · rw [dst_put e] at ht
      rcases h.val t u ht with ⟨j, o', h1, h2, h3, h4⟩ | hv
      · have hne : j ≠ i := by rintro rfl; rw [hC] at h2; cases h2
        exact .inl ⟨j, o', h1, (hCi j).2 (.inl h2), by simp [h3, hne], h4⟩
      · refine .inr ?_
        cases hd : o.dst with
        | none => exact hv
        | some d => simp only [Act.put]; rw [Array.getElem?_setIfInBounds_ne (by intro e'; exact e (by rw [hd, e']))]; exact hv
  · simp at hl
    obtain ⟨hl, hne⟩ := hl
    have hj' : C.testBit j = true := ((hCi j).1 hj).resolve_right hne
    obtain ⟨o', d', v', os', h1, h2, h3, h4, h5, h6, h7, h8⟩ := (h.pend j hj' hl).q
    have hji : ((MM ops).getD i 0).testBit j = false := by
      cases hb : ((MM ops).getD i 0).testBit j with
      | false => rfl
      | true => rw [hm j hb] at hl; cases hl
    refine ⟨o', d', v', os', h1, h2, h3, fun hlt => ?_, fun x hx => (hCi x).2 (.inl (h5 x hx)), ?_, fun w hw => ?_, ?_⟩
    · rw [dst_put (quiet_dst h1 h3 h2 ho (fun e => hne e.symm))]; exact h4 (by rw [put_len] at hlt; exact hlt)
    · rcases h8 with rfl | ⟨s, rfl, hmem⟩
      · trivial
      · exact hst _ (dropW_mem hmem hji)
    · refine (h7 w hw).env fun t ht => dst_put ?_
      intro e
      have := apartFrom_spec ops.toList 0 (hap t e) j o' (by simpa using h1) (by omega) (by simpa using h3) ht
      simp only [Nat.zero_add] at this
      rcases this with hx | hx
      · rw [h5 i hx] at hC; cases hC
      · rw [hji] at hx; cases hx
    · rcases h8 with h8 | ⟨s, hs, hmem⟩
      · exact .inl h8
      · exact .inr ⟨s, hs, dropW_mem hmem hji⟩
theorem DI.done (h : DI P ops wl C L env a w) {i : Nat} {o : Oper} {d : Tmp} {v : Value} (ho : ops[i]? = some o) (hC : C.testBit i = true) (hd : o.dst = some d)
    (hv : d < env.length → env[d]? = some (some v)) (hm : ∀ j, ((MM ops).getD i 0).testBit j = true → L j = true) :
    DI P ops wl C (fun j => L j || decide (j = i)) env (a.put o.dst v) w := by
  refine ⟨fun j hj hl => ?_, h.cin, fun j hj hl x hx => ?_, by rw [h.len, hd]; simp [Act.put], fun t u ht => ?_, fun j hj hl => ?_, h.wat⟩
  · simp at hl
    rcases hl with hl | rfl
    · exact h.sub j hj hl
    · exact hC
  · simp at hl ⊢
    rcases hl with hl | rfl
    · exact .inl (h.closed j hj hl x hx)
    · exact .inl (hm x hx)
  · by_cases e : t = d
    · subst e
      have hlt := (List.getElem?_eq_some_iff.1 ht).1
      rw [hv hlt] at ht; cases ht
      exact .inr (by rw [hd]; simp [Act.put, ← h.len, hlt])
    · rcases h.val t u ht with ⟨j, o', h1, h2, h3, h4⟩ | hv
      · have hne : j ≠ i := by rintro rfl; rw [ho] at h1; cases h1; rw [hd] at h4; cases h4; exact e rfl
        exact .inl ⟨j, o', h1, h2, by simp [h3, hne], h4⟩
      · refine .inr ?_
        rw [hd]; simp only [Act.put]; rw [Array.getElem?_setIfInBounds_ne (by omega)]; exact hv
  · simp at hl
    exact h.pend j hj hl.1
theorem draw_sound {ro : Option Nat} (hfit : fitD ops.toList (MM ops) (FF P ops) ops.toList 0 = true)
    (hput : ∀ a d v, I a → I (a.put d v)) (hQ : ∀ env a w, I a → Rel env a → K env w → Q .normal a w) :
    ∀ (m : Nat) (listed : Array Bool) (C : Nat) (wl : Watch) (env : Env) (a : Act) (w : World) (f : Nat), listed.size = ops.size → listed.toList.count false = m →
      DI P ops wl C (fun i => listed.getD i true) env a w → I a → drawW P ops.toList (MM ops) (FF P ops) full K f C wl env w → wpAnyIn (Fw ro) 0 P .any ops Q m listed a w := by
  have hback : ∀ (i : Nat) (o : Oper), ops[i]? = some o → ∀ e ∈ o.after.toList, Region.binds .any e = true → e.on < i := fun i o ho => by
    have := (fitD_spec ops.toList 0 hfit i o (by simpa using ho)).2; simpa using this
  have hready : ∀ (listed : Array Bool) i, i ∈ Region.ready .any ops listed ↔ ∃ o, ops[i]? = some o ∧ listed.getD i true = false ∧ ∀ e ∈ o.after.toList, Region.binds .any e = true → listed.getD e.on false = true := by
    intro listed i
    unfold Region.ready
    simp only [List.mem_filter, List.mem_range, Bool.and_eq_true, Bool.not_eq_true']
    constructor
    · rintro ⟨h1, h2, h3⟩
      obtain ⟨o, ho⟩ : ∃ o, ops[i]? = some o := ⟨ops[i], by simp [h1]⟩
      refine ⟨o, ho, h2, fun e he hb => ?_⟩
      rw [ho] at h3
      simp only [Option.map_some, Option.getD_some] at h3
      have := (Array.all_eq_true'.1 h3) e (by simpa using he)
      simpa [hb] using this
    · rintro ⟨o, ho, h2, h3⟩
      refine ⟨(Array.getElem?_eq_some_iff.1 ho).1, h2, ?_⟩
      rw [ho]
      simp only [Option.map_some, Option.getD_some]
      refine Array.all_eq_true'.2 fun e he => ?_
      cases hb : Region.binds .any e with
      | false => simp
      | true => simp [h3 e (by simpa using he) hb]
  intro m
  induction m with
  | zero =>
    intro listed C wl env a w f hs hc hI hD h
    have hall : ∀ i, i < ops.size → listed.getD i true = true := by
      intro i hi
      have : (listed.toList[i]?) = some true := by
        have hl : i < listed.toList.length := by simpa [hs] using hi
        rw [List.getElem?_eq_getElem hl]
        cases hb : listed.toList[i] with
        | true => rfl
        | false => exact absurd (hb ▸ List.getElem_mem hl) (List.count_eq_zero.1 hc)
      rw [Array.getD_eq_getD_getElem?, ← Array.getElem?_toList, this]; rfl
    have hnr : Region.ready .any ops listed = [] := by
      rw [List.eq_nil_iff_forall_not_mem]
      intro i hi
      obtain ⟨o, ho, h2, _⟩ := (hready listed i).1 hi
      rw [hall i (Array.getElem?_eq_some_iff.1 ho).1] at h2; cases h2
    refine ⟨hnr, ?_⟩
    have hR : Rel env a := by
      refine ⟨hI.len, fun t v hv => ?_⟩
      rcases hI.val t v hv with ⟨j, o, h1, _, h3, _⟩ | hv
      · rw [hall j (Array.getElem?_eq_some_iff.1 h1).1] at h3; cases h3
      · exact hv
    cases f with
    | zero => exact h.elim
    | succ f =>
      have hin : ∀ i, i < ops.size → C.testBit i = true := fun i hi => hI.sub i hi (hall i hi)
      have hnri : ∀ i o, ops.toList[i]? = some o → readyI (MM ops) C i = false := by
        intro i o ho
        have : i < ops.size := (Array.getElem?_eq_some_iff.1 (by simpa using ho)).1
        unfold readyI; rw [hin i this]
      unfold drawW at h
      cases hq : firstQ (MM ops) (FF P ops) C ops.toList 0 with
      | some io =>
        obtain ⟨_, h2, _, h4⟩ := firstQ_some _ _ _ _ hq
        rw [Nat.sub_zero] at h2; rw [hnri _ _ h2] at h4; cases h4
      | none =>
        simp only [hq] at h
        cases hl : allReady (MM ops) C ops.toList 0 with
        | nil =>
          simp only [hl] at h
          cases hb : Nat.beq C full with
          | true => simp only [hb] at h; exact hQ _ _ _ hD hR h
          | false => simp only [hb] at h
        | cons x xs =>
          exfalso
          have : ∀ (l : List Oper) (k : Nat), (∀ i o, l[i]? = some o → readyI (MM ops) C (k + i) = false) → allReady (MM ops) C l k = [] := by
            intro l
            induction l with
            | nil => intro k _; rfl
            | cons o l ih =>
              intro k hk
              unfold allReady
              have := hk 0 o rfl
              simp only [Nat.add_zero] at this
              rw [this]
              exact ih (k + 1) fun i o h => by rw [show k + 1 + i = k + (i + 1) by omega]; exact hk (i + 1) o (by simpa using h)
          rw [this ops.toList 0 (fun i o ho => by rw [Nat.zero_add]; exact hnri i o ho)] at hl; cases hl
  | succ m ih =>
    intro listed C wl env a w f hs hc hI hD h
    refine ⟨fun hr => ?_, fun i hi => ?_⟩
    · -- somebody is ready
      exfalso
      have hex : ∃ i, i < ops.size ∧ listed.getD i true = false := by
        have : 0 < listed.toList.count false := by omega
        obtain ⟨i, hi, hv⟩ := List.getElem_of_mem (List.count_pos_iff.1 this)
        refine ⟨i, by simpa [hs] using hi, ?_⟩
        rw [Array.getD_eq_getD_getElem?, ← Array.getElem?_toList, List.getElem?_eq_getElem hi, hv]; rfl
      have hmin : ∀ n, (∃ i, i < n ∧ i < ops.size ∧ listed.getD i true = false) → ∃ i, i ∈ Region.ready .any ops listed := by
        intro n
        induction n with
        | zero => rintro ⟨i, hi, _⟩; omega
        | succ n ihn =>
          rintro ⟨i, hi, hsz, hl⟩
          by_cases hex : ∃ i, i < n ∧ i < ops.size ∧ listed.getD i true = false
          · exact ihn hex
          · have : i = n := by
              rcases Nat.lt_or_ge i n with h | h
              · exact absurd ⟨i, h, hsz, hl⟩ hex
              · omega
            subst this
            refine ⟨i, (hready listed i).2 ⟨ops[i], by simp [hsz], hl, fun e he hb => ?_⟩⟩
            have hlt := hback i ops[i] (by simp [hsz]) e he hb
            cases hv : listed.getD e.on true with
            | false => exact absurd ⟨e.on, hlt, by omega, hv⟩ hex
            | true =>
              have : e.on < listed.size := by omega
              simpa [Array.getD_eq_getD_getElem?, this] using hv
      obtain ⟨i, hi1, hi2⟩ := hex
      obtain ⟨j, hj⟩ := hmin (i + 1) ⟨i, by omega, hi1, hi2⟩
      rw [hr] at hj; cases hj
    · obtain ⟨o, ho, hli, hdeps⟩ := (hready listed i).1 hi
      have hiz : i < ops.size := (Array.getElem?_eq_some_iff.1 ho).1
      have hdeps' : ∀ e ∈ o.after.toList, Region.binds .any e = true → listed.getD e.on true = true := by
        intro e he hb
        have := hdeps e he hb
        have hlt : e.on < listed.size := by have := hback i o ho e he hb; omega
        simpa [Array.getD_eq_getD_getElem?, hlt] using this
      obtain ⟨f', C', wl', env', hI', h', hq⟩ := absorb f C wl env hI h
      have hm := hI'.inL ho (hback i o ho) hdeps'
      have hagree := hI'.agree ho hm
      -- the bookkeeping of the list
      have hlist : ∀ j, (listed.setIfInBounds i true).getD j true = (listed.getD j true || decide (j = i)) := by
        intro j
        by_cases e : j = i
        · subst e; simp [Array.getD_eq_getD_getElem?, hs, hiz]
        · simp only [Array.getD_eq_getD_getElem?]; rw [Array.getElem?_setIfInBounds_ne (by omega)]; simp [e]
      have hcount : (listed.setIfInBounds i true).toList.count false = m := by
        have : listed.toList[i]? = some false := by
          have hl : i < listed.toList.length := by simpa [hs] using hiz
          rw [Array.getD_eq_getD_getElem?, ← Array.getElem?_toList, List.getElem?_eq_getElem hl] at hli
          simp at hli; simp [hli, hs, hiz]
        have h2 := count_set _ _ this
        rw [Array.toList_setIfInBounds]; omega
      have hcong : (fun j => (listed.setIfInBounds i true).getD j true) = fun j => (listed.getD j true || decide (j = i)) := funext hlist
      cases hCi : C'.testBit i with
      | true =>
        obtain ⟨o', d, v, os, h1, h2, h3, h4, h5, h6, h7, h8⟩ := (hI'.pend i hCi hli).q
        rw [ho] at h1; cases h1
        have hnext : wpAnyIn (Fw ro) 0 P .any ops Q m (listed.setIfInBounds i true) (a.put o.dst v) w :=
          ih _ C' wl' env' _ w (f' + 1) (by simp [hs]) hcount (by rw [hcong]; exact hI'.done ho hCi h2 h4 hm) (hput _ _ _ hD) h'
        unfold wpOpIn
        simp only [ho]
        rcases h7 w h6 a hagree with ⟨hw, hrun⟩ | ⟨hw, rfl⟩
        · rw [if_pos hw]; refine ⟨fun _ _ => trivial, ?_⟩; rw [semAt_w ho h3, hrun]; exact hnext
        · rw [if_neg (by simp [hw])]; exact ⟨fun _ _ => trivial, hnext⟩
      | false =>
        have hrdy : readyI (MM ops) C' i = true := readyI_iff.2 ⟨hCi, fun j hj => hI'.sub j (by
          rcases Nat.lt_or_ge j ops.size with hx | hx
          · exact hx
          · exfalso
            obtain ⟨e, he, _, hor⟩ := (mask_iff (l := ops.toList) (by simpa using ho) (hback i o ho) j).1 hj
            have hM : ∀ (k : Nat), k < ops.size → ((MM ops).getD k 0).testBit j = true → j < k := by
              intro k
              induction k using Nat.strongRecOn with
              | _ k ihk =>
                intro hk hb
                obtain ⟨e, he, hbd, hor⟩ := (mask_iff (l := ops.toList) (o := ops[k]) (by simp [hk]) (hback k ops[k] (by simp [hk])) j).1 hb
                have := hback k ops[k] (by simp [hk]) e he hbd
                rcases hor with rfl | hb'
                · exact this
                · have := ihk e.on this (by omega) hb'; omega
            have := hM i hiz hj
            omega) (hm j hj)⟩
        have hloud := firstQ_none ops.toList 0 hq i o (by simpa using ho) (by simpa using hrdy)
        simp only [Nat.zero_add] at hloud
        have hmem := allReady_mem (M := MM ops) (C := C') ops.toList 0 i o (by simpa using ho) (by simpa using hrdy)
        simp only [Nat.zero_add] at hmem
        have hap := (fitD_spec ops.toList 0 hfit i o (by simpa using ho)).1 (by simpa using hloud)
        simp only [Nat.zero_add] at hap
        unfold drawW at h'
        simp only [hq] at h'
        cases hl : allReady (MM ops) C' ops.toList 0 with
        | nil => rw [hl] at hmem; cases hmem
        | cons x xs =>
          simp only [hl] at h'
          rw [← hl] at h'
          have hb := mall_mem h' (i, o) hmem
          simp only at hb
          unfold wpOpIn
          simp only [ho]
          rcases guard_sound (tmps := a.tmps) (fun g want d hg hd v hv => hagree d (guard_reads hg (by simpa using hd)) v hv) hb with ⟨hw, hy⟩ | ⟨hw, hn⟩
          · rw [if_pos hw]
            refine step_sound (fun x hx v hv => eval_of_reads hagree hx hv) hy fun v w' hk => ?_
            obtain ⟨hst, hk⟩ := stays_spec hk
            exact ih _ _ _ _ _ w' f' (by simp [hs]) hcount (by rw [hcong]; exact hI'.loud ho hCi hm hap hst) (hput _ _ _ hD) hk
          · rw [if_neg (by simp [hw])]
            refine ⟨fun _ _ => trivial, ?_⟩
            exact ih _ _ _ _ _ w f' (by simp [hs]) hcount (by rw [hcong]; exact hI'.loud ho hCi hm hap fun x hx => hI'.wat x (dropW_sub hx)) (hput _ _ _ hD) hn
theorem region_sound {ro : Option Nat} (hm : P.follows .mixedOrders = true) {id : Nat} (hput : ∀ a d v, I a → I (a.put d v)) (hQ : ∀ env a w, I a → Rel env a → K env w → Q .normal a w) (hD : I a) (hR : Rel env a)
    (h : regionW P ops.toList K env { w with drawn := w.drawn + 1 }) : (Code.region id ops true).wpIn (Fw ro) 0 P Q a w := by
  refine wpIn_region_any hm ?_
  unfold regionW at h
  cases hfit : fitD ops.toList (masks ops.toList []) (loudFlags P ops.toList (masks ops.toList []) ops.toList 0) ops.toList 0 with
  | false => simp only [hfit] at h
  | true =>
    simp only [hfit] at h
    have hg : ∀ i, i < ops.size → (Array.replicate ops.size false).getD i true = false := by
      intro i hi; simp [Array.getD_eq_getD_getElem?, hi]
    refine draw_sound hfit hput hQ ops.size _ 0 [] env a _ _ (by simp) (by simp) ?_ hD h
    exact {
      sub := fun i hi hl => by rw [hg i hi] at hl; cases hl
      cin := fun i hi => by simp at hi
      closed := fun i hi hl => by rw [hg i hi] at hl; cases hl
      len := hR.len
      val := fun t v hv => .inr (hR.val t v hv)
      pend := fun i hi => by simp at hi
      wat := fun x hx => by cases hx }
end
end Go.W
namespace Go.W
open Go
abbrev Slots := List (Nat × Kd)
abbrev kds (l : Slots) : List Kd := l.map (·.2)
def getE (env : Env) : (l : Slots) → (KTs (kds l) → World → Prop) → World → Prop
  | [], k => k ()
  | (t, kd) :: l, k => match env.getD t none with
    | some v => match unV kd v with
      | some x => getE env l fun xs => k (x, xs)
      | none => fun _ => False
    | none => fun _ => False
def setE : (l : Slots) → KTs (kds l) → Env → Env
  | [], _, e => e
  | (t, kd) :: l, x, e => setE l x.2 (e.set t (some (KV kd x.1)))
def mkE (n : Nat) (l : Slots) (x : KTs (kds l)) : Env := setE l x (List.replicate n none)
theorem setE_le : ∀ (l : Slots) (env e : Env) (k : KTs (kds l) → World → Prop) (w : World), ELe e env → getE env l k w → ∃ x, k x w ∧ ELe (setE l x e) env
  | [], env, e, k, w, hle, h => ⟨(), h, hle⟩
  | (t, kd) :: l, env, e, k, w, hle, h => by
    unfold getE at h
    cases hv : env.getD t none with
    | none => simp only [hv] at h
    | some v =>
      simp only [hv] at h
      cases hx : unV kd v with
      | none => simp only [hx] at h
      | some x =>
        simp only [hx] at h
        have hle' : ELe (e.set t (some (KV kd x))) env := by
          refine ⟨by rw [List.length_set]; exact hle.1, fun t' u hu => ?_⟩
          rcases put_get hu with ⟨rfl, rfl, _⟩ | ⟨_, hu⟩
          · rw [← unV_spec kd v x hx]; exact getD_none hv
          · exact hle.2 t' u hu
        obtain ⟨xs, h1, h2⟩ := setE_le l env _ _ w hle' h
        exact ⟨(x, xs), h1, h2⟩
theorem getE_elim {n : Nat} {l : Slots} {env : Env} {k : KTs (kds l) → World → Prop} {w : World} (hn : env.length = n) (h : getE env l k w) : ∃ x, k x w ∧ ELe (mkE n l x) env :=
  setE_le l env _ k w ⟨by simp [hn], fun t v hv => by rw [List.getElem?_replicate] at hv; split at hv <;> simp at hv⟩ h
def mdraw (k : World → Prop) (w : World) : Prop := k { w with drawn := w.drawn + 1 }
def codeW (P : Program) : Code → (Exit → Env → World → Prop) → Env → World → Prop
  | .skip, Q, env => Q .normal env
  | .region _ ops draw, Q, env => match draw with
    | false => opsW P ops.toList (Q .normal) ops.toList env
    | true => mdraw (regionW P ops.toList (Q .normal) env)
  | .seq a b, Q, env => codeW P a (fun e env' => match e with | .normal => codeW P b Q env' | e => Q e env') env
  | .cond c a b, Q, env => match rdE env c with
    | some (.bool t) => mif t (codeW P a Q env) (codeW P b Q env)
    | _ => fun _ => False
  | .block id c, Q, env => codeW P c (fun e env' => match e with | .exit i => (match Nat.beq i id with | true => Q .normal env' | false => Q (.exit i) env') | e => Q e env') env
  | .exit id, Q, env => Q (.exit id) env
  | .goto l, Q, env => Q (.goto l) env
  | .label _, Q, env => Q .normal env
  | .ret, Q, env => Q .ret env
  | _, _, _ => fun _ => False
def Lift (n : Nat) (D : List Deferred) (Q : Exit → Env → World → Prop) : Exit → Act → World → Prop
  | .outgrown, _, _ => False
  | .panic _, _, _ => False
  | e, a, w => a.defers = D ∧ a.tmps.size = n ∧ ∃ env, Rel env a ∧ Q e env w
def WPC (P : Program) (n : Nat) (D : List Deferred) (c : Code) (Q : Exit → Env → World → Prop) (env : Env) (w : World) : Prop :=
  ∀ a, a.defers = D → a.tmps.size = n → Rel env a → c.wp P (Lift n D Q) a w
section
variable {P : Program} {n : Nat} {D : List Deferred} {Q : Exit → Env → World → Prop} {env : Env} {w : World}
theorem Lift.of {e : Exit} {a : Act} (hD : a.defers = D) (hn : a.tmps.size = n) (hR : Rel env a) (h : Q e env w) (h1 : e ≠ .outgrown) (h2 : ∀ c, e ≠ .panic c) : Lift n D Q e a w := by
  cases e <;> first | exact ⟨hD, hn, env, hR, h⟩ | exact absurd rfl h1 | exact absurd rfl (h2 _)
theorem WPC.mono {c : Code} {Q' : Exit → Env → World → Prop} (h : WPC P n D c Q env w) (hq : ∀ e env w, Q e env w → Q' e env w) : WPC P n D c Q' env w := by
  intro a hD hn hR
  refine wp_mono (h a hD hn hR) ?_
  intro e a w hl
  cases e <;> first | (obtain ⟨h1, h2, env, h3, h4⟩ := hl; exact ⟨h1, h2, env, h3, hq _ _ _ h4⟩) | exact hl
theorem WPC.le {c : Code} {env' : Env} (h : WPC P n D c Q env w) (hle : ELe env env') : WPC P n D c Q env' w :=
  fun a hD hn hR => h a hD hn (hR.mono hle)
theorem WPC.seq {x y : Code} {K : Env → World → Prop} (h : WPC P n D x (fun e env' => match e with | .normal => K env' | e => Q e env') env w)
    (hk : ∀ env w, env.length = n → K env w → WPC P n D y Q env w) : WPC P n D (.seq x y) Q env w := by
  intro a hD hn hR
  refine wp_seq (wp_mono (h a hD hn hR) ?_)
  intro e a w hl
  cases e <;> first | (obtain ⟨h1, h2, env, h3, h4⟩ := hl; exact hk env w (h3.len.trans h2) h4 a h1 h2 h3) | (obtain ⟨h1, h2, env, h3, h4⟩ := hl; exact ⟨h1, h2, env, h3, h4⟩) | exact hl.elim
theorem WPC.cond {c : Operand} {x y : Code} {t : Bool} (hc : rdE env c = some (.bool t)) (h : mif t (WPC P n D x Q env) (WPC P n D y Q env) w) : WPC P n D (.cond c x y) Q env w := by
  intro a hD hn hR
  refine wp_cond (hR.eval hc) ?_
  cases t
  · exact h a hD hn hR
  · exact h a hD hn hR
theorem WPC.block {id : Nat} {c : Code} (h : WPC P n D c (fun e env' => match e with | .exit i => (match Nat.beq i id with | true => Q .normal env' | false => Q (.exit i) env') | e => Q e env') env w) : WPC P n D (.block id c) Q env w := by
  intro a hD hn hR
  refine wp_block (wp_mono (h a hD hn hR) ?_)
  intro e a w hl
  cases e with
  | exit i =>
    obtain ⟨h1, h2, env, h3, h4⟩ := hl
    simp only [Exit.inBlock]
    by_cases e : i = id
    · subst e
      have hb : Nat.beq i i = true := by simp
      simp only [hb] at h4
      rw [if_pos rfl]; exact ⟨h1, h2, env, h3, h4⟩
    · have hb : Nat.beq i id = false := by cases hb : Nat.beq i id with | true => exact absurd (Nat.eq_of_beq_eq_true hb) e | false => rfl
      simp only [hb] at h4
      rw [if_neg e]; exact ⟨h1, h2, env, h3, h4⟩
  | _ => first | exact hl | (obtain ⟨h1, h2, env, h3, h4⟩ := hl; exact ⟨h1, h2, env, h3, h4⟩)
theorem act_put (n : Nat) (D : List Deferred) (a : Act) (d : Option Tmp) (v : Value) (h : a.defers = D ∧ a.tmps.size = n) : (a.put d v).defers = D ∧ (a.put d v).tmps.size = n := by
  cases d <;> simpa [Act.put] using h
def WPR (P : Program) (ro : Option Nat) (n : Nat) (D : List Deferred) (c : Code) (Q : Exit → Env → World → Prop) (env : Env) (w : World) : Prop :=
  ∀ a, a.defers = D → a.tmps.size = n → Rel env a → c.wpIn (Fw ro) 0 P (Lift n D Q) a w
theorem WPR.seq {ro : Option Nat} {x y : Code} {K : Env → World → Prop} (h : WPR P ro n D x (fun e env' => match e with | .normal => K env' | e => Q e env') env w)
    (hk : ∀ env w, env.length = n → K env w → WPR P ro n D y Q env w) : WPR P ro n D (.seq x y) Q env w := by
  intro a hD hn hR
  refine wpIn_seq (wpIn_mono (h a hD hn hR) ?_)
  intro e a w hl
  cases e <;> first | (obtain ⟨h1, h2, env, h3, h4⟩ := hl; exact hk env w (h3.len.trans h2) h4 a h1 h2 h3) | (obtain ⟨h1, h2, env, h3, h4⟩ := hl; exact ⟨h1, h2, env, h3, h4⟩) | exact hl.elim
theorem WPR.cond {ro : Option Nat} {c : Operand} {x y : Code} {t : Bool} (hc : rdE env c = some (.bool t)) (h : mif t (WPR P ro n D x Q env) (WPR P ro n D y Q env) w) : WPR P ro n D (.cond c x y) Q env w := by
  intro a hD hn hR
  refine wpIn_cond (hR.eval hc) ?_
  cases t
  · exact h a hD hn hR
  · exact h a hD hn hR
theorem WPR.block {ro : Option Nat} {id : Nat} {c : Code} (h : WPR P ro n D c (fun e env' => match e with | .exit i => (match Nat.beq i id with | true => Q .normal env' | false => Q (.exit i) env') | e => Q e env') env w) : WPR P ro n D (.block id c) Q env w := by
  intro a hD hn hR
  refine wpIn_block (wpIn_mono (h a hD hn hR) ?_)
  intro e a w hl
  cases e with
  | exit i =>
    obtain ⟨h1, h2, env, h3, h4⟩ := hl
    simp only [Exit.inBlock]
    by_cases e : i = id
    · subst e
      have hb : Nat.beq i i = true := by simp
      simp only [hb] at h4
      rw [if_pos rfl]; exact ⟨h1, h2, env, h3, h4⟩
    · have hb : Nat.beq i id = false := by cases hb : Nat.beq i id with | true => exact absurd (Nat.eq_of_beq_eq_true hb) e | false => rfl
      simp only [hb] at h4
      rw [if_neg e]; exact ⟨h1, h2, env, h3, h4⟩
  | _ => first | exact hl | (obtain ⟨h1, h2, env, h3, h4⟩ := hl; exact ⟨h1, h2, env, h3, h4⟩)
theorem WPR.code {ro : Option Nat} (hm : P.follows .mixedOrders = true) : ∀ (c : Code) (Q : Exit → Env → World → Prop) (env : Env) (w : World), codeW P c Q env w → WPR P ro n D c Q env w
  | .skip, Q, env, w, h => fun a hD hn hR => wpIn_skip ⟨hD, hn, env, hR, h⟩
  | .label l, Q, env, w, h => fun a hD hn hR => wpIn_label ⟨hD, hn, env, hR, h⟩
  | .exit id, Q, env, w, h => fun a hD hn hR => wpIn_exit ⟨hD, hn, env, hR, h⟩
  | .goto l, Q, env, w, h => fun a hD hn hR => wpIn_goto ⟨hD, hn, env, hR, h⟩
  | .ret, Q, env, w, h => fun a hD hn hR => wpIn_ret ⟨hD, hn, env, hR, h⟩
  | .region id ops false, Q, env, w, h => fun a hD hn hR =>
    wpIn_region_list (ops_sound (ro := ro) (I := fun a => a.defers = D ∧ a.tmps.size = n) (act_put n D) (fun env a w hD' hR' hk => ⟨hD'.1, hD'.2, env, hR', hk⟩) ops.toList env a w ⟨hD, hn⟩ hR h)
  | .region id ops true, Q, env, w, h => fun a hD hn hR =>
    region_sound (ro := ro) (I := fun a => a.defers = D ∧ a.tmps.size = n) hm (act_put n D) (fun env a w hD' hR' hk => ⟨hD'.1, hD'.2, env, hR', hk⟩) ⟨hD, hn⟩ hR h
  | .seq x y, Q, env, w, h => WPR.seq (K := codeW P y Q) (WPR.code hm x _ env w h) fun env w _ hk => WPR.code hm y Q env w hk
  | .cond c x y, Q, env, w, h => by
    unfold codeW at h
    cases hc : rdE env c with
    | none => simp only [hc] at h
    | some v =>
      cases v <;> simp only [hc] at h
      refine WPR.cond hc ?_
      rename_i t
      cases t
      · exact WPR.code hm y Q env w h
      · exact WPR.code hm x Q env w h
  | .block id c, Q, env, w, h => WPR.block (WPR.code hm c _ env w h)
  | .loop c, Q, env, w, h => h.elim
  | .rangeFunc f ps x c, Q, env, w, h => h.elim
  | .scope c, Q, env, w, h => h.elim
  | .refuse s, Q, env, w, h => h.elim
theorem WPC_iff {c : Code} : WPC P n D c Q env w ↔ WPR P none n D c Q env w :=
  ⟨fun h a h1 h2 h3 => (wpIn_wide (n := 0)).2 (h a h1 h2 h3), fun h a h1 h2 h3 => (wpIn_wide (n := 0)).1 (h a h1 h2 h3)⟩
theorem WPC.code (hm : P.follows .mixedOrders = true) : ∀ (c : Code) (Q : Exit → Env → World → Prop) (env : Env) (w : World), codeW P c Q env w → WPC P n D c Q env w
  | .skip, Q, env, w, h => fun a hD hn hR => wp_skip ⟨hD, hn, env, hR, h⟩
  | .label l, Q, env, w, h => fun a hD hn hR => wp_label ⟨hD, hn, env, hR, h⟩
  | .exit id, Q, env, w, h => fun a hD hn hR => wp_exit ⟨hD, hn, env, hR, h⟩
  | .goto l, Q, env, w, h => fun a hD hn hR => wp_goto ⟨hD, hn, env, hR, h⟩
  | .ret, Q, env, w, h => fun a hD hn hR => wp_ret ⟨hD, hn, env, hR, h⟩
  | .region id ops false, Q, env, w, h => WPC_iff.2 (WPR.code hm _ Q env w h)
  | .region id ops true, Q, env, w, h => WPC_iff.2 (WPR.code hm _ Q env w h)
  | .seq x y, Q, env, w, h => WPC.seq (K := codeW P y Q) (WPC.code hm x _ env w h) fun env w _ hk => WPC.code hm y Q env w hk
  | .cond c x y, Q, env, w, h => by
    unfold codeW at h
    cases hc : rdE env c with
    | none => simp only [hc] at h
    | some v =>
      cases v <;> simp only [hc] at h
      refine WPC.cond hc ?_
      rename_i t
      cases t
      · exact WPC.code hm y Q env w h
      · exact WPC.code hm x Q env w h
  | .block id c, Q, env, w, h => WPC.block (WPC.code hm c _ env w h)
  | .loop c, Q, env, w, h => h.elim
  | .rangeFunc f ps x c, Q, env, w, h => h.elim
  | .scope c, Q, env, w, h => h.elim
  | .refuse s, Q, env, w, h => h.elim
end
end Go.W
namespace Go.W
open Go
def cutW (P : Program) (K : Env → World → Prop) (Q : Exit → Env → World → Prop) : Nat → Code → Env → World → Prop
  | 0, _, env => K env
  | m + 1, .seq a b, env => codeW P a (fun e env' => match e with | .normal => cutW P K Q m b env' | e => Q e env') env
  | _ + 1, c, env => codeW P c Q env
def restC : Nat → Code → Code
  | 0, c => c
  | m + 1, .seq _ b => restC m b
  | _ + 1, _ => .skip
inductive Step | fst | snd | blk | thn | els
def Code.at : Code → List Step → Code
  | c, [] => c
  | .seq a _, .fst :: l => Code.at a l
  | .seq _ b, .snd :: l => Code.at b l
  | .block _ b, .blk :: l => Code.at b l
  | .loop b, .blk :: l => Code.at b l
  | .scope b, .blk :: l => Code.at b l
  | .rangeFunc _ _ _ b, .blk :: l => Code.at b l
  | .rangeFunc _ _ x _, .fst :: l => Code.at x l
  | .cond _ a _, .thn :: l => Code.at a l
  | .cond _ _ b, .els :: l => Code.at b l
  | _, _ => .skip
def thenQ (K : Env → World → Prop) (Q : Exit → Env → World → Prop) : Exit → Env → World → Prop := fun e env => match e with | .normal => K env | e => Q e env
def blockQ (id : Nat) (K : Env → World → Prop) (Q : Exit → Env → World → Prop) : Exit → Env → World → Prop :=
  fun e env => match e with | .exit i => (match Nat.beq i id with | true => K env | false => Q (.exit i) env) | e => Q e env
def Loop {σ κ : Type} (c : κ) (body : (σ → κ → World → Prop) → σ → World → Prop) (s0 : σ) (w : World) : Prop :=
  ∃ (J : σ → World → Prop) (μ : σ → World → Nat), J s0 w ∧ ∀ s w, J s w → body (fun s' c' w' => c' = c ∧ J s' w' ∧ μ s' w' < μ s w) s w
def resW (P : Program) (env : Env) : List ResultVar → (List Value → World → Prop) → World → Prop
  | [], k => k []
  | .tmp t :: l, k => match env.getD t none with | some v => resW P env l fun vs => k (v :: vs) | none => fun _ => False
  | .cell t ty :: l, k => match env.getD t none with
    | some (.pointer (some a)) => mrd P (Instr.loadAt ty (.pointer (some a))) (kd P ty) fun x => resW P env l fun vs => k (KV _ x :: vs)
    | _ => fun _ => False
def packV : List Value → Value
  | [v] => v
  | vs => .tuple vs.toArray
def topQ (P : Program) (rs : List ResultVar) (kd : Kd) (R : KT kd → World → Prop) : Exit → Env → World → Prop :=
  fun e env => match e with
  | .normal | .ret => resW P env rs fun vs => match unV kd (packV vs) with | some x => R x | none => fun _ => False
  | _ => fun _ => False
def argE (n : Nat) (args : List Value) : Env := args.map some ++ List.replicate (n - args.length) none
section
variable {P : Program} {n : Nat} {D : List Deferred} {Q : Exit → Env → World → Prop} {env : Env} {w : World}
theorem WPC.cut (hm : P.follows .mixedOrders = true) {K : Env → World → Prop} : ∀ (m : Nat) (c : Code) (env : Env) (w : World), cutW P K Q m c env w →
    env.length = n → (∀ env w, env.length = n → K env w → WPC P n D (restC m c) Q env w) → WPC P n D c Q env w
  | 0, c, env, w, h, hl, hk => hk env w hl h
  | m + 1, .seq a b, env, w, h, _, hk => by
    refine WPC.seq (K := cutW P K Q m b) ?_ fun env w hl h => WPC.cut hm m b env w h hl hk
    exact WPC.code hm a _ env w h
  | m + 1, .skip, env, w, h, _, _ => WPC.code hm _ _ _ _ h
  | m + 1, .region _ _ _, env, w, h, _, _ => WPC.code hm _ _ _ _ h
  | m + 1, .cond _ _ _, env, w, h, _, _ => WPC.code hm _ _ _ _ h
  | m + 1, .block _ _, env, w, h, _, _ => WPC.code hm _ _ _ _ h
  | m + 1, .loop _, env, w, h, _, _ => WPC.code hm _ _ _ _ h
  | m + 1, .rangeFunc _ _ _ _, env, w, h, _, _ => WPC.code hm _ _ _ _ h
  | m + 1, .exit _, env, w, h, _, _ => WPC.code hm _ _ _ _ h
  | m + 1, .scope _, env, w, h, _, _ => WPC.code hm _ _ _ _ h
  | m + 1, .label _, env, w, h, _, _ => WPC.code hm _ _ _ _ h
  | m + 1, .goto _, env, w, h, _, _ => WPC.code hm _ _ _ _ h
  | m + 1, .ret, env, w, h, _, _ => WPC.code hm _ _ _ _ h
  | m + 1, .refuse _, env, w, h, _, _ => WPC.code hm _ _ _ _ h
theorem getE_mono {env : Env} : ∀ {l : Slots} {k k' : KTs (kds l) → World → Prop} {w : World}, getE env l k w → (∀ x w, k x w → k' x w) → getE env l k' w
  | [], k, k', w, h, hk => hk _ _ h
  | (t, kd) :: l, k, k', w, h, hk => by
    unfold getE at h ⊢
    cases hv : env.getD t none with
    | none => simp only [hv] at h
    | some v =>
      simp only [hv] at h ⊢
      cases hx : unV kd v with
      | none => simp only [hx] at h
      | some x => simp only [hx] at h ⊢; exact getE_mono h fun xs w h => hk _ w h
theorem mkE_len (n : Nat) (l : Slots) (x : KTs (kds l)) : (mkE n l x).length = n := by
  have : ∀ (l : Slots) (x : KTs (kds l)) (e : Env), (setE l x e).length = e.length := by
    intro l
    induction l with
    | nil => intro x e; rfl
    | cons a l ih => intro x e; obtain ⟨t, kd⟩ := a; simp only [setE]; rw [ih]; simp
  unfold mkE; rw [this]; simp
def mkE2 (n : Nat) (l l' : Slots) (x : KTs (kds l)) (y : KTs (kds l')) : Env := setE l' y (mkE n l x)
theorem mkE2_len (n : Nat) (l l' : Slots) (x : KTs (kds l)) (y : KTs (kds l')) : (mkE2 n l l' x y).length = n := by
  have : ∀ (l : Slots) (x : KTs (kds l)) (e : Env), (setE l x e).length = e.length := by
    intro l
    induction l with
    | nil => intro x e; rfl
    | cons a l ih => intro x e; obtain ⟨t, kd⟩ := a; simp only [setE]; rw [ih]; simp
  unfold mkE2; rw [this, mkE_len]
theorem WPC.join {c : Code} {l : Slots} {F : KTs (kds l) → World → Prop} (hF : ∀ x w, F x w → WPC P n D c Q (mkE n l x) w) (env : Env) (w : World) (hl : env.length = n) (h : getE env l F w) :
    WPC P n D c Q env w := by
  obtain ⟨x, h1, h2⟩ := getE_elim hl h
  exact (hF x w h1).le h2
theorem getE2 {l l' : Slots} {F : KTs (kds l) → KTs (kds l') → World → Prop} (hl : env.length = n) (h : getE env l (fun x => getE env l' (F x)) w) :
    ∃ x y, F x y w ∧ ELe (mkE2 n l l' x y) env := by
  obtain ⟨x, h1, h2⟩ := getE_elim hl h
  obtain ⟨y, h3, h4⟩ := setE_le l' env _ _ w h2 h1
  exact ⟨x, y, h3, h4⟩
theorem WPC.join2 {c : Code} {l l' : Slots} {F : KTs (kds l) → KTs (kds l') → World → Prop} (hF : ∀ x y w, F x y w → WPC P n D c Q (mkE2 n l l' x y) w) (env : Env) (w : World)
    (hl : env.length = n) (h : getE env l (fun x => getE env l' (F x)) w) : WPC P n D c Q env w := by
  obtain ⟨x, y, h1, h2⟩ := getE2 hl h
  exact (hF x y w h1).le h2
theorem wp_loop_ghost {σ : Type} {c : Code} {Q : Exit → Act → World → Prop} (I : σ → Act → World → Prop) (μ : σ → World → Nat) {s : σ} {a : Act} {w : World} (h₀ : I s a w)
    (round : ∀ s a w, I s a w → c.wp P (Exit.then (fun a' w' => ∃ s', I s' a' w' ∧ μ s' w' < μ s w) Q) a w) : (Code.loop c).wp P Q a w := by
  intro b k cs
  have key : ∀ n s a w, μ s w = n → I s a w →
      ∃ e a' w', Q e a' w' ∧ Arrives P (lone (b.at a (.code c :: .inLoop c :: k)) cs w) b k cs e a' w' := by
    intro n
    induction n using Nat.strongRecOn with
    | _ n ih =>
      intro s a w hn hI
      obtain ⟨e, a₁, w₁, hq, harr⟩ := round s a w hI b (.inLoop c :: k) cs
      cases e with
      | normal =>
        obtain ⟨s₁, hI₁, hlt⟩ := hq
        obtain ⟨e₂, a₂, w₂, hq₂, harr₂⟩ := ih (μ s₁ w₁) (hn ▸ hlt) s₁ a₁ w₁ rfl hI₁
        exact ⟨e₂, a₂, w₂, hq₂, .of_steps (Steps.trans harr (.one step_inLoop)) harr₂⟩
      | exit id => exact ⟨_, a₁, w₁, hq, .pass (x := .inLoop c) rfl (fun _ _ => .inl (by simp)) harr⟩
      | goto l => exact ⟨_, a₁, w₁, hq, .pass (x := .inLoop c) rfl (fun _ _ => .inl (by simp)) harr⟩
      | ret => exact ⟨_, a₁, w₁, hq, .pass (x := .inLoop c) rfl (fun _ _ => .inl (by simp)) harr⟩
      | panic ch => exact ⟨_, a₁, w₁, hq, .pass (x := .inLoop c) rfl (fun _ _ => .inl (by simp)) harr⟩
      | outgrown => exact ⟨_, a₁, w₁, hq, .pass (x := .inLoop c) rfl (fun _ _ => .inl (by simp)) harr⟩
  obtain ⟨e, a', w', hq, harr⟩ := key _ s a w rfl h₀
  exact ⟨e, a', w', hq, .of_steps (.one step_loop) harr⟩
theorem WPC.loop {l l' : Slots} {b : Code} {body : (KTs (kds l) → KTs (kds l') → World → Prop) → KTs (kds l) → World → Prop} {c : KTs (kds l')} {s0 : KTs (kds l)}
    (hb : ∀ cont s w, body cont s w → WPC P n D b (thenQ (fun env' => getE env' l fun s' => getE env' l' (cont s')) Q) (mkE2 n l l' s c) w)
    (h : Loop c body s0 w) : WPC P n D (.loop b) Q (mkE2 n l l' s0 c) w := by
  obtain ⟨J, μ, h0, hst⟩ := h
  intro a hD hn hR
  refine wp_loop_ghost (fun s a w => a.defers = D ∧ a.tmps.size = n ∧ Rel (mkE2 n l l' s c) a ∧ J s w) μ ⟨hD, hn, hR, h0⟩ ?_
  rintro s a w ⟨hD, hn, hR, hJ⟩
  refine wp_mono (hb _ s w (hst s w hJ) a hD hn hR) ?_
  intro e a' w' hl
  cases e with
  | normal =>
    obtain ⟨h1, h2, env, h3, h4⟩ := hl
    obtain ⟨s', c', ⟨rfl, h6, h7⟩, h8⟩ := getE2 (h3.len.trans h2) h4
    exact ⟨s', ⟨h1, h2, h3.mono h8, h6⟩, h7⟩
  | _ => exact hl
theorem WPC.loopR {l l' lr : Slots} {b rest : Code} {id : Nat} {body : (KTs (kds l) → KTs (kds l') → World → Prop) → KTs (kds l) → World → Prop} {c : KTs (kds l')} {s0 : KTs (kds l)} {FR : KTs (kds lr) → World → Prop}
    (hb : ∀ cont s w, body cont s w → WPC P n D b (thenQ (fun env' => getE env' l fun s' => getE env' l' (cont s')) (blockQ id (fun env => getE env lr FR) Q)) (mkE2 n l l' s c) w)
    (hr : ∀ x w, FR x w → WPC P n D rest Q (mkE n lr x) w)
    (h : Loop c body s0 w) : WPC P n D (.seq (.block id (.loop b)) rest) Q (mkE2 n l l' s0 c) w := by
  have hb' : ∀ cont s w, body cont s w → WPC P n D b (thenQ (fun env' => getE env' l fun s' => getE env' l' (cont s')) (thenQ (fun _ _ => False) (blockQ id (fun env => getE env lr FR) Q))) (mkE2 n l l' s c) w :=
    fun cont s w h => (hb cont s w h).mono fun e env w h => by cases e <;> exact h
  refine WPC.seq (K := fun env w => getE env lr FR w) (WPC.block (WPC.mono (WPC.loop hb' h) ?_)) fun env w hl h => WPC.join hr env w hl h
  intro e env w h
  cases e with
  | exit i => unfold thenQ blockQ at h; simp only at h ⊢; cases hb : Nat.beq i id <;> simp only [hb] at h ⊢ <;> exact h
  | normal => exact h.elim
  | _ => exact h
theorem WPC.loopE {l l' : Slots} {b : Code} {id : Nat} {body : (KTs (kds l) → KTs (kds l') → World → Prop) → KTs (kds l) → World → Prop} {c : KTs (kds l')} {s0 : KTs (kds l)}
    (hb : ∀ cont s w, body cont s w → WPC P n D b (thenQ (fun env' => getE env' l fun s' => getE env' l' (cont s')) (blockQ id (Q .normal) Q)) (mkE2 n l l' s c) w)
    (h : Loop c body s0 w) : WPC P n D (.block id (.loop b)) Q (mkE2 n l l' s0 c) w := by
  have hb' : ∀ cont s w, body cont s w → WPC P n D b (thenQ (fun env' => getE env' l fun s' => getE env' l' (cont s')) (thenQ (fun _ _ => False) (blockQ id (Q .normal) Q))) (mkE2 n l l' s c) w :=
    fun cont s w h => (hb cont s w h).mono fun e env w h => by cases e <;> exact h
  refine WPC.block (WPC.mono (WPC.loop hb' h) ?_)
  intro e env w h
  cases e with
  | exit i => unfold thenQ blockQ at h; simp only at h ⊢; cases hb : Nat.beq i id <;> simp only [hb] at h ⊢ <;> exact h
  | normal => exact h.elim
  | _ => exact h
class Mix (P : Program) : Prop where
  ok : P.follows .mixedOrders = true
theorem pc_end [hm : Mix P] {c : Code} {T : Prop} (h : T) (e : T = codeW P c Q env w := by kernel_rfl) : WPC P n D c Q env w := WPC.code hm.ok c Q env w (e ▸ h)
theorem pc_cut [hm : Mix P] {l : Slots} {F : KTs (kds l) → World → Prop} {c c' : Code} {T : Prop} (m : Nat)
    (hF : ∀ x w, F x w → WPC P n D c' Q (mkE n l x) w) (h : T) (hl : env.length = n := by first | exact mkE_len .. | exact mkE2_len ..) (hr : restC m c = c' := by kernel_rfl) (e : T = cutW P (fun env => getE env l F) Q m c env w := by kernel_rfl) : WPC P n D c Q env w :=
  WPC.cut hm.ok m c env w (e ▸ h) hl fun env w hl h => hr ▸ WPC.join hF env w hl h
theorem pc_cut2 [hm : Mix P] {l l' : Slots} {F : KTs (kds l) → KTs (kds l') → World → Prop} {c c' : Code} {T : Prop} (m : Nat)
    (hF : ∀ x y w, F x y w → WPC P n D c' Q (mkE2 n l l' x y) w) (h : T) (hl : env.length = n := by first | exact mkE_len .. | exact mkE2_len ..) (hr : restC m c = c' := by kernel_rfl) (e : T = cutW P (fun env => getE env l fun x => getE env l' (F x)) Q m c env w := by kernel_rfl) : WPC P n D c Q env w :=
  WPC.cut hm.ok m c env w (e ▸ h) hl fun env w hl h => hr ▸ WPC.join2 hF env w hl h
theorem pc_loopR {l l' lr : Slots} {c0 b rest : Code} {id : Nat} {body : (KTs (kds l) → KTs (kds l') → World → Prop) → KTs (kds l) → World → Prop} {c : KTs (kds l')} {s0 : KTs (kds l)} {FR : KTs (kds lr) → World → Prop}
    (hb : ∀ cont s w, body cont s w → WPC P n D b (thenQ (fun env' => getE env' l fun s' => getE env' l' (cont s')) (blockQ id (fun env => getE env lr FR) Q)) (mkE2 n l l' s c) w)
    (hr : ∀ x w, FR x w → WPC P n D rest Q (mkE n lr x) w) (h : Loop c body s0 w) (hc : c0 = .seq (.block id (.loop b)) rest := by kernel_rfl) : WPC P n D c0 Q (mkE2 n l l' s0 c) w := hc ▸ WPC.loopR hb hr h
theorem pc_loopE {l l' : Slots} {c0 b : Code} {id : Nat} {body : (KTs (kds l) → KTs (kds l') → World → Prop) → KTs (kds l) → World → Prop} {c : KTs (kds l')} {s0 : KTs (kds l)}
    (hb : ∀ cont s w, body cont s w → WPC P n D b (thenQ (fun env' => getE env' l fun s' => getE env' l' (cont s')) (blockQ id (Q .normal) Q)) (mkE2 n l l' s c) w)
    (h : Loop c body s0 w) (hc : c0 = .block id (.loop b) := by kernel_rfl) : WPC P n D c0 Q (mkE2 n l l' s0 c) w := hc ▸ WPC.loopE hb h
theorem pc_seq {l : Slots} {F : KTs (kds l) → World → Prop} {c0 a b : Code} (h : WPC P n D a (thenQ (fun env => getE env l F) Q) env w)
    (hF : ∀ x w, F x w → WPC P n D b Q (mkE n l x) w) (hc : c0 = .seq a b := by kernel_rfl) : WPC P n D c0 Q env w := by
  rw [hc]; exact WPC.seq (K := fun env => getE env l F) (h.mono fun e env w h => by cases e <;> exact h) fun env w hl h => WPC.join hF env w hl h
theorem pc_block {c0 c : Code} {id : Nat} (h : WPC P n D c (blockQ id (Q .normal) Q) env w) (hc : c0 = .block id c := by kernel_rfl) : WPC P n D c0 Q env w := hc ▸ WPC.block h
theorem wp_scope_ghost {σ : Type} {c rest : Code} {Q : Exit → Act → World → Prop} {a : Act} {w : World} (l : Nat) (J : σ → Act → World → Prop) (μ : σ → World → Nat) (hf : findLabel c l = some rest)
    (first : c.wp P (Exit.jump l (fun a w => ∃ s, J s a w) Q) a w)
    (pass : ∀ s a w, J s a w → rest.wp P (Exit.jump l (fun a' w' => ∃ s', J s' a' w' ∧ μ s' w' < μ s w) Q) a w) : (Code.scope c).wp P Q a w := by
  intro b k cs
  have hg : gotoIn l (.inScope c :: k) = some (.code rest :: .inScope c :: k) := by simp [gotoIn, hf]
  have key : ∀ n s a w, μ s w = n → J s a w → ∃ e a' w', Q e a' w' ∧ Arrives P (lone (b.at a (.code rest :: .inScope c :: k)) cs w) b k cs e a' w' := by
    intro n
    induction n using Nat.strongRecOn with
    | _ n ih =>
      intro s a w hn hJ
      obtain ⟨e, a₁, w₁, hq, harr⟩ := pass s a w hJ b (.inScope c :: k) cs
      cases e with
      | normal => exact ⟨.normal, a₁, w₁, hq, Steps.trans harr (.one step_inScope)⟩
      | exit id => exact ⟨.exit id, a₁, w₁, hq, fun k' hk => harr k' (by simp [exitTo, hk])⟩
      | goto l' =>
        obtain ⟨rfl, s', hJ', hlt⟩ := hq
        obtain ⟨e₂, a₂, w₂, hq₂, harr₂⟩ := ih _ (by omega) s' a₁ w₁ rfl hJ'
        exact ⟨e₂, a₂, w₂, hq₂, .of_steps (harr _ hg) harr₂⟩
      | ret => exact ⟨_, a₁, w₁, hq, harr⟩
      | panic ch => exact ⟨_, a₁, w₁, hq, harr⟩
      | outgrown => exact ⟨_, a₁, w₁, hq, harr⟩
  obtain ⟨e, a₁, w₁, hq, harr⟩ := first b (.inScope c :: k) cs
  cases e with
  | normal => exact ⟨.normal, a₁, w₁, hq, .head step_scope (Steps.trans harr (.one step_inScope))⟩
  | exit id => exact ⟨.exit id, a₁, w₁, hq, fun k' hk => .head step_scope (harr k' (by simp [exitTo, hk]))⟩
  | goto l' =>
    obtain ⟨rfl, s', hJ'⟩ := hq
    obtain ⟨e₂, a₂, w₂, hq₂, harr₂⟩ := key _ s' a₁ w₁ rfl hJ'
    exact ⟨e₂, a₂, w₂, hq₂, .of_steps (.head step_scope (harr _ hg)) harr₂⟩
  | ret => exact ⟨_, a₁, w₁, hq, .of_steps (.one step_scope) harr⟩
  | panic ch => exact ⟨_, a₁, w₁, hq, .of_steps (.one step_scope) harr⟩
  | outgrown => exact ⟨_, a₁, w₁, hq, .of_steps (b := b) (k := k) (cs := cs) (e := .outgrown) (.one step_scope) harr⟩
def gotoQ (id : Nat) (K : Env → World → Prop) (Q : Exit → Env → World → Prop) : Exit → Env → World → Prop :=
  fun e env => match e with | .goto j => (match Nat.beq j id with | true => K env | false => fun _ => False) | e => Q e env
def noGotoQ (Q : Exit → Env → World → Prop) : Exit → Env → World → Prop := fun e env => match e with | .goto _ => fun _ => False | e => Q e env
theorem WPC.scope (hm : P.follows .mixedOrders = true) {l l' : Slots} {c b : Code} {id m : Nat} {body : KTs (kds l') → (KTs (kds l) → KTs (kds l') → World → Prop) → KTs (kds l) → World → Prop}
    (hf : findLabel c id = some b) (hl : env.length = n)
    (hb : ∀ y cont s w, body y cont s w → WPC P n D b (gotoQ id (fun env' => getE env' l fun s' => getE env' l' (cont s')) Q) (mkE2 n l l' s y) w)
    (hb2 : ∀ y cont s w, body y cont s w → WPC P n D (restC m c) (gotoQ id (fun env' => getE env' l fun s' => getE env' l' (cont s')) Q) (mkE2 n l l' s y) w)
    (h : cutW P (fun env' => getE env' l fun s => getE env' l' fun y => Loop y (body y) s) (gotoQ id (fun env' => getE env' l fun s => getE env' l' fun y => Loop y (body y) s) Q) m c env w) : WPC P n D (.scope c) Q env w := by
  intro a hD hn hR
  let J : (KTs (kds l) × KTs (kds l') × (KTs (kds l) → World → Prop) × (KTs (kds l) → World → Nat)) → Act → World → Prop :=
    fun g a w => a.defers = D ∧ a.tmps.size = n ∧ Rel (mkE2 n l l' g.1 g.2.1) a ∧ g.2.2.1 g.1 w ∧
      ∀ s w, g.2.2.1 s w → body g.2.1 (fun s' c' w' => c' = g.2.1 ∧ g.2.2.1 s' w' ∧ g.2.2.2 s' w' < g.2.2.2 s w) s w
  have hto : ∀ (g : KTs (kds l) × KTs (kds l') × (KTs (kds l) → World → Prop) × (KTs (kds l) → World → Nat)) (s : KTs (kds l)) (w : World) (e : Exit) (a' : Act) (w' : World),
      (∀ s w, g.2.2.1 s w → body g.2.1 (fun s' c' w' => c' = g.2.1 ∧ g.2.2.1 s' w' ∧ g.2.2.2 s' w' < g.2.2.2 s w) s w) →
      Lift n D (gotoQ id (fun env' => getE env' l fun s' => getE env' l' fun c' w' => c' = g.2.1 ∧ g.2.2.1 s' w' ∧ g.2.2.2 s' w' < g.2.2.2 s w) Q) e a' w' →
      Exit.jump id (fun a' w' => ∃ g', J g' a' w' ∧ g'.2.2.2 g'.1 w' < g.2.2.2 s w) (Lift n D Q) e a' w' := by
    intro g s w e a' w' hst hl
    cases e with
    | goto j =>
      obtain ⟨h1, h2, env, h3, h4⟩ := hl
      simp only [gotoQ] at h4
      cases hj : Nat.beq j id with
      | false => simp only [hj] at h4
      | true =>
        simp only [hj] at h4
        obtain ⟨s', c', ⟨rfl, h5, h6⟩, h7⟩ := getE2 (h3.len.trans h2) h4
        exact ⟨Nat.eq_of_beq_eq_true hj, (s', g.2.1, g.2.2), ⟨h1, h2, h3.mono h7, h5, hst⟩, h6⟩
    | _ => exact hl
  refine wp_scope_ghost id J (fun g w => g.2.2.2 g.1 w) hf ?_ ?_
  · -- the first pass
    have h2 : WPC P n D c (gotoQ id (fun env' => getE env' l fun s => getE env' l' fun y => Loop y (body y) s) Q) env w := by
      refine WPC.cut hm m c env w h hl ?_
      · intro env w hl h
        obtain ⟨s, y, ⟨J, μ, h0, hst⟩, hle⟩ := getE2 hl h
        refine ((hb2 y _ s w (hst s w h0)).mono ?_).le hle
        intro e env w h
        cases e with
        | goto j =>
          simp only [gotoQ] at h ⊢
          cases hj : Nat.beq j id with
          | false => simp only [hj] at h
          | true =>
            simp only [hj] at h ⊢
            exact getE_mono h fun s' w h => getE_mono h fun c' w h => by obtain ⟨rfl, h1, _⟩ := h; exact ⟨J, μ, h1, hst⟩
        | _ => exact h
    refine wp_mono (h2 a hD hn hR) ?_
    intro e a' w' hl
    cases e with
    | goto j =>
      obtain ⟨h1, h2, env, h3, h4⟩ := hl
      simp only [gotoQ] at h4
      cases hj : Nat.beq j id with
      | false => simp only [hj] at h4
      | true =>
        simp only [hj] at h4
        obtain ⟨s, y, ⟨J', μ, h0, hst⟩, h7⟩ := getE2 (h3.len.trans h2) h4
        exact ⟨Nat.eq_of_beq_eq_true hj, (s, y, J', μ), h1, h2, h3.mono h7, h0, hst⟩
    | _ => exact hl
  · rintro ⟨s, y, J', μ⟩ a w ⟨h1, h2, h3, h4, hst⟩
    exact wp_mono (hb y _ s w (hst s w h4) a h1 h2 h3) fun e a' w' hl => hto (s, y, J', μ) s w e a' w' hst hl
theorem WPC.scope0 {c : Code} (h : WPC P n D c (noGotoQ Q) env w) : WPC P n D (.scope c) Q env w := by
  intro a hD hn hR
  refine wp_scope_straight (wp_mono (h a hD hn hR) ?_)
  intro e a w hl
  cases e with
  | goto j => obtain ⟨_, _, _, _, h⟩ := hl; exact h.elim
  | _ => exact hl
theorem pc_scope0 {c0 c : Code} (h : WPC P n D c (noGotoQ Q) env w) (hc : c0 = .scope c := by kernel_rfl) : WPC P n D c0 Q env w := hc ▸ WPC.scope0 h
theorem pc_scope (hm : P.follows .mixedOrders = true) {l l' : Slots} {c0 c b c' : Code} {id m : Nat} {body : KTs (kds l') → (KTs (kds l) → KTs (kds l') → World → Prop) → KTs (kds l) → World → Prop} {T : Prop}
    (hc : c0 = .scope c) (hf : findLabel c id = some b) (hr : restC m c = c') (hl : env.length = n)
    (hb : ∀ y cont s w, body y cont s w → WPC P n D b (gotoQ id (fun env' => getE env' l fun s' => getE env' l' (cont s')) Q) (mkE2 n l l' s y) w)
    (hb2 : ∀ y cont s w, body y cont s w → WPC P n D c' (gotoQ id (fun env' => getE env' l fun s' => getE env' l' (cont s')) Q) (mkE2 n l l' s y) w)
    (e : T = cutW P (fun env' => getE env' l fun s => getE env' l' fun y => Loop y (body y) s) (gotoQ id (fun env' => getE env' l fun s => getE env' l' fun y => Loop y (body y) s) Q) m c env w) (h : T) : WPC P n D c0 Q env w := by
  subst hc hr; exact WPC.scope hm hf hl hb hb2 (e ▸ h)
def resF (tmps : Array Value) : ResultVar → Sem Value
  | .tmp t => pure (tmps.getD t undef)
  | .cell a t => do loadVar t (← asAddr (tmps.getD a undef))
theorem resW_sound {fn : Func} {a : Act} {kdr : Kd} {R : KT kdr → World → Prop} (hR : Rel env a)
    (h : resW P env fn.results.toList (fun vs => match unV kdr (packV vs) with | some x => R x | none => fun _ => False) w) :
    ∃ x, (results fn a.tmps).run P w = .ok (KV kdr x) w ∧ R x w := by
  have key : ∀ (l : List ResultVar) (k : List Value → World → Prop), resW P env l k w →
      ∃ vs, (l.mapM (resF a.tmps)).run P w = .ok vs w ∧ k vs w := by
    intro l
    induction l with
    | nil => intro k h; exact ⟨[], by simp, h⟩
    | cons r l ih =>
      intro k h
      cases r with
      | tmp t =>
        unfold resW at h
        cases hv : env.getD t none with
        | none => simp only [hv] at h
        | some v =>
          simp only [hv] at h
          obtain ⟨vs, h1, h2⟩ := ih _ h
          have ht : a.tmps.getD t undef = v := by rw [Array.getD_eq_getD_getElem?, hR.val t v (getD_none hv)]; rfl
          refine ⟨v :: vs, ?_, h2⟩
          rw [List.mapM_cons]
          simp only [resF, Sem.run_bind, Sem.run_pure, Result.andThen_ok, ht, h1]
      | cell t ty =>
        unfold resW at h
        cases hv : env.getD t none with
        | none => simp only [hv] at h
        | some v =>
          cases v <;> simp only [hv] at h
          rename_i p
          cases p <;> simp only at h
          rename_i ad
          obtain ⟨x, hx, h⟩ := h
          obtain ⟨vs, h1, h2⟩ := ih _ h
          have ht : a.tmps.getD t undef = .pointer (some ad) := by rw [Array.getD_eq_getD_getElem?, hR.val t _ (getD_none hv)]; rfl
          refine ⟨_ :: vs, ?_, h2⟩
          rw [List.mapM_cons]
          have hx' : (loadVar ty ad).run P w = .ok (KV (kd P ty) x) w := by simpa [Instr.loadAt, Instr.sureAddr] using hx
          simp only [resF, Sem.run_bind, Sem.run_pure, Result.andThen_ok, ht, asAddr, hx', h1]
  obtain ⟨vs, h1, h2⟩ := key _ _ h
  cases hx : unV kdr (packV vs) with
  | none => simp only [hx] at h2
  | some x =>
    simp only [hx] at h2
    refine ⟨x, ?_, h2⟩
    rw [← unV_spec kdr _ x hx]
    have hf : results fn a.tmps = (do let vs ← fn.results.mapM (resF a.tmps); pure (if h : vs.size = 1 then vs[0] else .tuple vs)) := by
      unfold results; congr 1
    rw [hf, Array.mapM_eq_mapM_toList]
    simp only [Sem.run_bind, Sem.run_map, h1, Result.andThen_ok, Sem.run_pure]
    match vs with
    | [] => rfl
    | [v] => rfl
    | v :: v' :: vs => simp [packV]
theorem Enters.of {f : FuncId} {fn : Func} {c : Code} (hf : P.funcs[f]? = some fn) (hb : fn.body = some c) (hn : (fn.name == "runtime.NumGoroutine") = false) : Enters P f := by
  intro args w
  have hn' : ¬ fn.name = "runtime.NumGoroutine" := by intro h; rw [h] at hn; simp at hn
  simp [callFunc, program, Sem.run, hf, hn', hb]
theorem mcall_of {f : FuncId} {fn : Func} {c : Code} (hf : P.funcs[f]? = some fn) (hb : fn.body = some c) (hn : (fn.name == "runtime.NumGoroutine") = false)
    {args : List Value} {kdr : Kd} {R : KT kdr → World → Prop} (hl : args.length ≤ fn.ntmps) (h : WPC P fn.ntmps [] c (topQ P fn.results.toList kdr R) (argE fn.ntmps args) w) : mcall P f args kdr R w := by
  refine .enter (.of hf hb hn) (calls_of_wp hf hb (wp_mono (h _ rfl ?_ ?_) ?_))
  · simp; omega
  · refine ⟨by simp [argE], fun t v hv => ?_⟩
    unfold argE at hv
    rcases Nat.lt_or_ge t args.length with ht | ht
    · rw [List.getElem?_append_left (by simpa using ht)] at hv
      simp only [List.getElem?_map, Option.map_eq_some_iff] at hv
      obtain ⟨x, hx, he⟩ := hv
      simp at he; subst he
      rw [Array.getElem?_append_left (by simpa using ht)]
      simpa using hx
    · rw [List.getElem?_append_right (by simpa using ht), List.getElem?_replicate] at hv
      split at hv <;> simp at hv
  · intro e a w hl
    cases e with
    | normal =>
      obtain ⟨h1, h2, env, h3, h4⟩ := hl
      obtain ⟨x, hx, hr⟩ := resW_sound h3 h4
      exact ⟨h1, _, hx, x, rfl, hr⟩
    | ret =>
      obtain ⟨h1, h2, env, h3, h4⟩ := hl
      obtain ⟨x, hx, hr⟩ := resW_sound h3 h4
      exact ⟨h1, _, hx, x, rfl, hr⟩
    | exit i => obtain ⟨h1, h2, env, h3, h4⟩ := hl; exact h4.elim
    | goto i => obtain ⟨h1, h2, env, h3, h4⟩ := hl; exact h4.elim
    | panic c => exact hl.elim
    | outgrown => exact hl.elim
theorem pc_top {f n : Nat} {fn : Func} {c : Code} {args : List Value} {kdr : Kd} {R : KT kdr → World → Prop} {l : Slots} {F : KTs (kds l) → World → Prop} {T : Prop}
    (hf : P.funcs[f]? = some fn)
    (hF : ∀ x w, F x w → WPC P n [] c (topQ P fn.results.toList kdr R) (mkE n l x) w) (h : T) (hb : fn.body = some c := by rfl) (hnm : (fn.name == "runtime.NumGoroutine") = false := by kernel_rfl) (hn : fn.ntmps = n := by kernel_rfl) (hl : Nat.ble args.length n = true := by kernel_rfl) (e : T = getE (argE n args) l F w := by kernel_rfl) : mcall P f args kdr R w := by
  subst hn
  have hl' : args.length ≤ fn.ntmps := Nat.le_of_ble_eq_true hl
  exact mcall_of hf hb hnm hl' (WPC.join hF _ _ (by simp [argE]; omega) (e ▸ h))
end
end Go.W
namespace Go.W
open Go
abbrev I : Kd := .i .i64
abbrev ad (a : Addr) (n : Nat) : Addr := ⟨a.block, a.off + n, none⟩
abbrev w64 (x : Int) : Int := IntKind.wrap .i64 x
def wr8 (x : Int) : Int := IntKind.wrap .u8 x
def wr32 (x : Int) : Int := IntKind.wrap .u32 x
def wr64 (x : Int) : Int := IntKind.wrap .u64 x
def iand (k : IntKind) (a b : Int) : Int := k.wrap (BitVec.ofInt k.bits a &&& BitVec.ofInt k.bits b).toNat
def ior (k : IntKind) (a b : Int) : Int := k.wrap (BitVec.ofInt k.bits a ||| BitVec.ofInt k.bits b).toNat
def ixor (k : IntKind) (a b : Int) : Int := k.wrap (BitVec.ofInt k.bits a ^^^ BitVec.ofInt k.bits b).toNat
def inot (k : IntKind) (a : Int) : Int := k.wrap (BitVec.ofInt k.bits (if k.signed then -1 else k.max) ^^^ BitVec.ofInt k.bits a).toNat
def ishl (k : IntKind) (a b : Int) : Int := k.wrap (a * 2 ^ (min b.toNat k.bits))
def ishr (k : IntKind) (a b : Int) : Int := a.fdiv (2 ^ (min b.toNat k.bits))
def mn (x y : Int) : Int := if y < x then y else x
def mx (x y : Int) : Int := if y > x then y else x
def ld (P : Program) (t : TypeId) (a : Addr) (kd : Kd) (k : KT kd → World → Prop) : World → Prop := mrd P (Instr.loadAt t (.pointer (some a))) kd k
def sto (P : Program) (t : TypeId) (a : Addr) (kd : Kd) (v : KT kd) (k : World → Prop) : World → Prop := mact P (Instr.storeAt t (.pointer (some a)) (KV kd v)) k
def alo (P : Program) (t : TypeId) (k : Addr → World → Prop) : World → Prop := mop P (Instr.alloc t true (.tuple #[])) .ad k
def bx (P : Program) (t : TypeId) (kd : Kd) (v : KT kd) (k : Addr → World → Prop) : World → Prop := mop P (Instr.box t (KV kd v)) .ad k
def bslL (kd : Kd) : Nat → List (KT kd) → List (Nat × Value)
  | _, [] => []
  | i, x :: l => (i, KV kd x) :: bslL kd (i + 1) l
def bsl (P : Program) (t : TypeId) (kd : Kd) (xs : List (KT kd)) (k : Sl → World → Prop) : World → Prop := mop P (Instr.buildSlice t xs.length (bslL kd 0 xs).toArray) .sl k
def ixa (P : Program) (t : TypeId) (x : Value) (i : Int) (k : Addr → World → Prop) : World → Prop := mrd P (Instr.indexAt t x (.int .i64 i)) .ad k
def ixs (P : Program) (t : TypeId) (s : Bs) (i : Int) (k : Int → World → Prop) : World → Prop := mrd P (Instr.index t (.string ⟨s.toArray⟩) (.int .i64 i)) (.i .u8) k
def sls (P : Program) (t : TypeId) (s : Bs) (lo hi : Option Int) (k : Bs → World → Prop) : World → Prop :=
  mrd P (Instr.sliceAt t (.string ⟨s.toArray⟩) (lo.map (.int .i64)) (hi.map (.int .i64)) none) .s k
def slc (P : Program) (t : TypeId) (s : Sl) (lo hi : Option Int) (k : Sl → World → Prop) : World → Prop :=
  mrd P (Instr.sliceAt t (Sl.v s) (lo.map (.int .i64)) (hi.map (.int .i64)) none) .sl k
def mkm (P : Program) (t : TypeId) (k : Nat → World → Prop) : World → Prop := mop P (Instr.makeMap t none) .md k
def lku (P : Program) (t : TypeId) (m : Option Nat) (kk : Kd) (x : KT kk) (kd : Kd) (k : KT kd → World → Prop) : World → Prop := mrd P (Instr.lookup t (.map m) (KV kk x) false) kd k
def mup (P : Program) (t : TypeId) (m : Option Nat) (kk : Kd) (x : KT kk) (kv : Kd) (y : KT kv) (k : World → Prop) : World → Prop := mact P (Instr.mapUpdate t (.map m) (KV kk x) (KV kv y)) k
def app (P : Program) (ts : Array TypeId) (t : TypeId) (a b : Value) (k : Sl → World → Prop) : World → Prop := mop P (Builtin.append_ ts t #[a, b]) .sl k
def meq (P : Program) (op : BinOp) (t : TypeId) (a b : Value) (k : Bool → World → Prop) : World → Prop := mrd P (binOp op t a b) .b k
end Go.W
namespace Go.W
open Go
abbrev Frag := Nat → Option Obj
def Frag.le (p q : Frag) : Prop := ∀ b o, p b = some o → q b = some o
def Frag.emp : Frag := fun _ => none
def Frag.disj (p q : Frag) : Prop := ∀ b, p b = none ∨ q b = none
def Frag.add (p q : Frag) : Frag := fun b => match p b with | some o => some o | none => q b
def Frag.one (b : Nat) (o : Obj) : Frag := fun c => if c = b then some o else none
theorem Frag.le.refl (p : Frag) : p.le p := fun _ _ h => h
theorem Frag.le.trans {p q r : Frag} (h : p.le q) (h' : q.le r) : p.le r := fun b o e => h' b o (h b o e)
theorem Frag.disj.symm {p q : Frag} (h : p.disj q) : q.disj p := fun b => (h b).symm
theorem Frag.emp_add (p : Frag) : Frag.emp.add p = p := rfl
theorem Frag.add_emp (p : Frag) : p.add Frag.emp = p := by funext b; simp only [Frag.add, Frag.emp]; cases p b <;> rfl
theorem Frag.emp_disj (p : Frag) : Frag.emp.disj p := fun _ => .inl rfl
theorem Frag.disj_emp (p : Frag) : p.disj Frag.emp := fun _ => .inr rfl
theorem Frag.add_some {p q : Frag} {b : Nat} {o : Obj} (h : p.add q b = some o) : p b = some o ∨ q b = some o := by
  unfold Frag.add at h; split at h <;> simp_all
theorem Frag.add_none {p q : Frag} {b : Nat} : p.add q b = none ↔ p b = none ∧ q b = none := by
  unfold Frag.add; split <;> simp_all
theorem Frag.le_add (p q : Frag) : p.le (p.add q) := fun b o h => by simp [Frag.add, h]
theorem Frag.add_le {p q : Frag} (hd : p.disj q) : q.le (p.add q) := fun b o h => by
  rcases hd b with h' | h' <;> simp_all [Frag.add]
theorem Frag.add_comm {p q : Frag} (hd : p.disj q) : p.add q = q.add p := by
  funext b; rcases hd b with h | h <;> simp only [Frag.add, h] <;> (split <;> simp_all)
theorem Frag.add_assoc (p q r : Frag) : (p.add q).add r = p.add (q.add r) := by
  funext b; simp only [Frag.add]; cases p b <;> rfl
theorem Frag.disj_add {p q r : Frag} : p.disj (q.add r) ↔ p.disj q ∧ p.disj r := by
  constructor
  · intro h
    exact ⟨fun b => (h b).imp id fun e => (Frag.add_none.1 e).1, fun b => (h b).imp id fun e => (Frag.add_none.1 e).2⟩
  · rintro ⟨h1, h2⟩ b
    rcases h1 b with h | h
    · exact .inl h
    · exact (h2 b).imp id fun e => Frag.add_none.2 ⟨h, e⟩
structure Assn where
  p : Frag → Frag → Prop
  mono : ∀ {π π' h}, π.le π' → p π h → p π' h
def Sat : List Assn → Frag → Frag → Prop
  | [], _, h => h = Frag.emp
  | A :: Γ, π, h => ∃ h1 h2, h1.disj h2 ∧ h = h1.add h2 ∧ A.p π h1 ∧ Sat Γ π h2
theorem Sat.mono : ∀ {Γ : List Assn} {π π' h : Frag}, π.le π' → Sat Γ π h → Sat Γ π' h
  | [], _, _, _, _, h => h
  | A :: _, _, _, _, hl, ⟨h1, h2, hd, he, ha, hs⟩ => ⟨h1, h2, hd, he, A.mono hl ha, Sat.mono hl hs⟩
theorem Sat.swap {A B : Assn} {Γ : List Assn} {π h : Frag} (hs : Sat (A :: B :: Γ) π h) : Sat (B :: A :: Γ) π h := by
  obtain ⟨h1, r, hd, rfl, ha, h2, h3, hd', rfl, hb, hc⟩ := hs
  obtain ⟨h12, h13⟩ := Frag.disj_add.1 hd
  refine ⟨h2, h1.add h3, Frag.disj_add.2 ⟨h12.symm, hd'⟩, ?_, hb, h1, h3, h13, rfl, ha, hc⟩
  rw [← Frag.add_assoc, ← Frag.add_assoc, Frag.add_comm h12]
structure Fix where
  os : Os
  out : Array (Nat × ByteArray)
def SH (o : Fix) (Γ : List Assn) (w : World) : Prop :=
  ∃ π h : Frag, π.disj h ∧ (∀ b x, π b = some x → w.heap[b]? = some x) ∧ (∀ b x, h b = some x → w.heap[b]? = some x) ∧ w.os = o.os ∧ w.output = o.out ∧ Sat Γ π h
class Has {α : Type} (f : α → Assn) (x : outParam α) (Γ : List Assn) (Δ : outParam (List Assn)) : Prop where
  sat : ∀ {π h}, Sat Γ π h ↔ Sat (f x :: Δ) π h
instance (priority := high) Has.here {α : Type} {f : α → Assn} {x : α} {Γ : List Assn} : Has f x (f x :: Γ) Γ := ⟨Iff.rfl⟩
instance (priority := low) Has.there {α : Type} {f : α → Assn} {x : α} {B : Assn} {Γ Δ : List Assn} [h : Has f x Γ Δ] : Has f x (B :: Γ) (B :: Δ) := by
  refine ⟨⟨?_, ?_⟩⟩
  · rintro ⟨h1, h2, hd, e, hb, hs⟩
    exact Sat.swap ⟨h1, h2, hd, e, hb, h.sat.1 hs⟩
  · intro hs
    obtain ⟨h1, h2, hd, e, hb, hs⟩ := Sat.swap hs
    exact ⟨h1, h2, hd, e, hb, h.sat.2 hs⟩
section
variable {o : Fix} {Γ Δ : List Assn} {w : World}
theorem SH.imp {Γ' : List Assn} (h : SH o Γ w) (hi : ∀ π h, Sat Γ π h → Sat Γ' π h) : SH o Γ' w := by
  obtain ⟨π, h, h1, h2, h3, h4, h5, h6⟩ := h; exact ⟨π, h, h1, h2, h3, h4, h5, hi _ _ h6⟩
theorem SH.same {w' : World} (h : SH o Γ w) (hh : w'.heap = w.heap) (ho : w'.os = w.os) (hu : w'.output = w.output) : SH o Γ w' := by
  obtain ⟨π, h, h1, h2, h3, h4, h5, h6⟩ := h; exact ⟨π, h, h1, hh ▸ h2, hh ▸ h3, ho ▸ h4, hu ▸ h5, h6⟩
theorem SH.take {α : Type} {f : α → Assn} {x : α} [H : Has f x Γ Δ] (h : SH o Γ w) : SH o (f x :: Δ) w := h.imp fun _ _ => H.sat.1
theorem SH.swap {A B : Assn} (h : SH o (A :: B :: Γ) w) : SH o (B :: A :: Γ) w := h.imp fun _ _ => Sat.swap
theorem SH.drop {A : Assn} (h : SH o (A :: Γ) w) : SH o Γ w := by
  obtain ⟨π, h, h1, h2, h3, h4, h5, a, r, hd, rfl, ha, hs⟩ := h
  exact ⟨π, r, (Frag.disj_add.1 h1).2, h2, fun b x hb => h3 b x (Frag.add_le hd b x hb), h4, h5, hs⟩
theorem SH.nil (h : SH o Γ w) : SH o [] w := by
  induction Γ with
  | nil => exact h
  | cons A Γ ih => exact ih h.drop
theorem SH.conseq {A B : Assn} (hi : ∀ π h, A.p π h → B.p π h) (h : SH o (A :: Γ) w) : SH o (B :: Γ) w :=
  h.imp fun _ _ ⟨h1, h2, hd, he, ha, hs⟩ => ⟨h1, h2, hd, he, hi _ _ ha, hs⟩
theorem SH.tail {Γ' : List Assn} {A : Assn} (hi : ∀ π h, Sat Γ π h → Sat Γ' π h) (h : SH o (A :: Γ) w) : SH o (A :: Γ') w :=
  h.imp fun _ _ ⟨h1, h2, hd, he, ha, hs⟩ => ⟨h1, h2, hd, he, ha, hi _ _ hs⟩
end
def objA (b : Nat) (x : Obj) : Assn := ⟨fun _ h => h = Frag.one b x, fun _ h => h⟩
def roA (b : Nat) (x : Obj) : Assn := ⟨fun π h => π b = some x ∧ h = Frag.emp, fun hl h => ⟨hl _ _ h.1, h.2⟩⟩
def pureA (p : Prop) : Assn := ⟨fun _ h => p ∧ h = Frag.emp, fun _ h => h⟩
def exA {α : Sort _} (F : α → Assn) : Assn := ⟨fun π h => ∃ x, (F x).p π h, fun hl ⟨x, h⟩ => ⟨x, (F x).mono hl h⟩⟩
def starA (Γ : List Assn) : Assn := ⟨Sat Γ, Sat.mono⟩
def andA (p : Prop) (A : Assn) : Assn := ⟨fun π h => p ∧ A.p π h, fun hl h => ⟨h.1, A.mono hl h.2⟩⟩
theorem Sat.append : ∀ {Γ Δ : List Assn} {π h : Frag}, Sat (Γ ++ Δ) π h ↔ ∃ h1 h2, h1.disj h2 ∧ h = h1.add h2 ∧ Sat Γ π h1 ∧ Sat Δ π h2
  | [], Δ, π, h => by
    constructor
    · intro hs; exact ⟨Frag.emp, h, Frag.emp_disj h, (Frag.emp_add h).symm, rfl, hs⟩
    · rintro ⟨h1, h2, hd, rfl, rfl, hs⟩; exact hs
  | A :: Γ, Δ, π, h => by
    constructor
    · rintro ⟨h1, r, hd, rfl, ha, hs⟩
      obtain ⟨h2, h3, hd', rfl, hs1, hs2⟩ := Sat.append.1 hs
      obtain ⟨h12, h13⟩ := Frag.disj_add.1 hd
      exact ⟨h1.add h2, h3, (Frag.disj_add.2 ⟨h13.symm, hd'.symm⟩).symm, (Frag.add_assoc ..).symm, ⟨h1, h2, h12, rfl, ha, hs1⟩, hs2⟩
    · rintro ⟨r, h3, hd, rfl, ⟨h1, h2, hd', rfl, ha, hs1⟩, hs2⟩
      obtain ⟨h31, h32⟩ := Frag.disj_add.1 hd.symm
      exact ⟨h1, h2.add h3, Frag.disj_add.2 ⟨hd', h31.symm⟩, Frag.add_assoc .., ha, Sat.append.2 ⟨h2, h3, h32.symm, rfl, hs1, hs2⟩⟩
section
variable {o : Fix} {Γ Δ : List Assn} {w : World}
theorem SH.star {L : List Assn} : SH o (starA L :: Γ) w ↔ SH o (L ++ Γ) w := by
  constructor
  · intro h; exact h.imp fun _ _ ⟨h1, h2, hd, he, ha, hs⟩ => Sat.append.2 ⟨h1, h2, hd, he, ha, hs⟩
  · intro h; exact h.imp fun _ _ hs => by obtain ⟨h1, h2, hd, he, ha, hs⟩ := Sat.append.1 hs; exact ⟨h1, h2, hd, he, ha, hs⟩
theorem SH.ex {α : Sort _} {F : α → Assn} : SH o (exA F :: Γ) w ↔ ∃ x, SH o (F x :: Γ) w := by
  constructor
  · rintro ⟨π, h, h1, h2, h3, h4, h5, a, r, hd, he, ⟨x, ha⟩, hs⟩; exact ⟨x, π, h, h1, h2, h3, h4, h5, a, r, hd, he, ha, hs⟩
  · rintro ⟨x, h⟩; exact h.conseq fun _ _ ha => ⟨x, ha⟩
theorem SH.and {p : Prop} {A : Assn} : SH o (andA p A :: Γ) w ↔ p ∧ SH o (A :: Γ) w := by
  constructor
  · rintro ⟨π, h, h1, h2, h3, h4, h5, a, r, hd, he, ⟨hp, ha⟩, hs⟩; exact ⟨hp, π, h, h1, h2, h3, h4, h5, a, r, hd, he, ha, hs⟩
  · rintro ⟨hp, h⟩; exact h.conseq fun _ _ ha => ⟨hp, ha⟩
theorem SH.pure {p : Prop} : SH o (pureA p :: Γ) w ↔ p ∧ SH o Γ w := by
  constructor
  · rintro ⟨π, h, h1, h2, h3, h4, h5, a, r, hd, he, ⟨hp, rfl⟩, hs⟩
    rw [Frag.emp_add] at he; subst he; exact ⟨hp, π, h, h1, h2, h3, h4, h5, hs⟩
  · rintro ⟨hp, π, h, h1, h2, h3, h4, h5, hs⟩
    exact ⟨π, h, h1, h2, h3, h4, h5, Frag.emp, h, Frag.emp_disj h, (Frag.emp_add h).symm, ⟨hp, rfl⟩, hs⟩
theorem SH.heap {b : Nat} {x : Obj} (h : SH o (objA b x :: Γ) w) : w.heap[b]? = some x := by
  obtain ⟨π, h, h1, h2, h3, h4, h5, a, r, hd, rfl, rfl, hs⟩ := h
  exact h3 b x (Frag.le_add _ _ b x (by simp [Frag.one]))
theorem SH.heapRo {b : Nat} {x : Obj} (h : SH o (roA b x :: Γ) w) : w.heap[b]? = some x := by
  obtain ⟨π, h, h1, h2, h3, h4, h5, a, r, hd, rfl, ⟨ha, _⟩, hs⟩ := h
  exact h2 b x ha
theorem SH.new (h : SH o Γ w) (x : Obj) {w' : World} (hh : w'.heap = w.heap.push x) (ho : w'.os = w.os) (hu : w'.output = w.output) : SH o (objA w.heap.size x :: Γ) w' := by
  obtain ⟨π, h, h1, h2, h3, h4, h5, hs⟩ := h
  have hlt : ∀ (f : Frag), (∀ b x, f b = some x → w.heap[b]? = some x) → f w.heap.size = none := by
    intro f hf
    cases e : f w.heap.size with
    | none => rfl
    | some y => have := hf _ _ e; simp at this
  have hpush : ∀ (f : Frag), (∀ b x, f b = some x → w.heap[b]? = some x) → ∀ b y, f b = some y → w'.heap[b]? = some y := by
    intro f hf b y e
    have := hf _ _ e
    have hb := (Array.getElem?_eq_some_iff.1 this).1
    rw [hh, Array.getElem?_push]; simp [Nat.ne_of_lt hb, this]
  refine ⟨π, (Frag.one w.heap.size x).add h, Frag.disj_add.2 ⟨fun b => ?_, h1⟩, hpush π h2, ?_, ho ▸ h4, hu ▸ h5, _, h, fun b => ?_, rfl, rfl, hs⟩
  · by_cases e : b = w.heap.size
    · subst e; exact .inl (hlt π h2)
    · exact .inr (by simp [Frag.one, e])
  · intro b y e
    rcases Frag.add_some e with e' | e'
    · unfold Frag.one at e'; split at e'
      · rename_i hb; subst hb; cases e'; rw [hh]; simp
      · cases e'
    · exact hpush h h3 b y e'
  · by_cases e : b = w.heap.size
    · subst e; exact .inr (hlt h h3)
    · exact .inl (by simp [Frag.one, e])
theorem SH.put {b : Nat} {x : Obj} (y : Obj) (h : SH o (objA b x :: Γ) w) {w' : World} (hh : ∀ c, w'.heap[c]? = if c = b then some y else w.heap[c]?) (ho : w'.os = w.os) (hu : w'.output = w.output) :
    SH o (objA b y :: Γ) w' := by
  obtain ⟨π, h, h1, h2, h3, h4, h5, a, r, hd, rfl, rfl, hs⟩ := h
  have hb : Frag.one b x b = some x := by simp [Frag.one]
  obtain ⟨d1, d2⟩ := Frag.disj_add.1 h1
  have hπ : π b = none := by rcases d1 b with e | e; exact e; rw [hb] at e; cases e
  have hr : r b = none := by rcases hd b with e | e; rw [hb] at e; cases e; exact e
  have key : ∀ c, c ≠ b → Frag.one b y c = none := fun c hc => by simp [Frag.one, hc]
  refine ⟨π, (Frag.one b y).add r, Frag.disj_add.2 ⟨fun c => ?_, d2⟩, fun c z e => ?_, fun c z e => ?_, ho ▸ h4, hu ▸ h5, _, r, fun c => ?_, rfl, rfl, hs⟩
  · by_cases e : c = b
    · subst e; exact .inl hπ
    · exact .inr (key c e)
  · have : c ≠ b := by rintro rfl; rw [hπ] at e; cases e
    rw [hh]; simp [this]; exact h2 c z e
  · rcases Frag.add_some e with e' | e'
    · unfold Frag.one at e'; split at e'
      · rename_i hc; subst hc; cases e'; rw [hh]; simp
      · cases e'
    · have : c ≠ b := by rintro rfl; rw [hr] at e'; cases e'
      rw [hh]; simp [this]; exact h3 c z (Frag.add_le hd c z e')
  · by_cases e : c = b
    · subst e; exact .inr hr
    · exact .inl (key c e)
theorem SH.freeze {b : Nat} {x : Obj} (h : SH o (objA b x :: Γ) w) : SH o (roA b x :: Γ) w := by
  obtain ⟨π, h, h1, h2, h3, h4, h5, a, r, hd, rfl, rfl, hs⟩ := h
  obtain ⟨d1, d2⟩ := Frag.disj_add.1 h1
  refine ⟨π.add (Frag.one b x), r, (Frag.disj_add.2 ⟨d2.symm, hd.symm⟩).symm, fun c z e => ?_, fun c z e => h3 c z (Frag.add_le hd c z e), h4, h5, Frag.emp, r, Frag.emp_disj r, (Frag.emp_add r).symm, ⟨?_, rfl⟩, hs.mono (Frag.le_add _ _)⟩
  · rcases Frag.add_some e with e | e
    · exact h2 c z e
    · exact h3 c z (Frag.le_add _ _ c z e)
  · exact Frag.add_le d1 b x (by simp [Frag.one])
end
class Dup (A : Assn) : Prop where
  emp : ∀ {π h}, A.p π h → h = Frag.emp
instance {b : Nat} {x : Obj} : Dup (roA b x) := ⟨fun h => h.2⟩
instance {p : Prop} : Dup (pureA p) := ⟨fun h => h.2⟩
instance {α : Sort _} {F : α → Assn} [h : ∀ x, Dup (F x)] : Dup (exA F) := ⟨fun ⟨x, hx⟩ => (h x).emp hx⟩
instance {p : Prop} {A : Assn} [h : Dup A] : Dup (andA p A) := ⟨fun hx => h.emp hx.2⟩
instance : Dup (starA []) := ⟨fun h => h⟩
instance {A : Assn} {L : List Assn} [h : Dup A] [h' : Dup (starA L)] : Dup (starA (A :: L)) :=
  ⟨by rintro π _ ⟨h1, h2, hd, rfl, ha, hs⟩; rw [h.emp ha, h'.emp hs]; rfl⟩
section
variable {o : Fix} {Γ Δ : List Assn} {w : World}
theorem SH.dup {A : Assn} [hd : Dup A] (h : SH o (A :: Γ) w) : SH o (A :: A :: Γ) w := by
  refine h.imp fun π h ⟨h1, h2, hdj, he, ha, hs⟩ => ?_
  have := hd.emp ha; subst this
  exact ⟨Frag.emp, h, Frag.emp_disj h, (Frag.emp_add h).symm, ha, Frag.emp, h2, hdj, he, ha, hs⟩
theorem SH.copy {α : Type} (f : α → Assn) {x : α} [Has f x Γ Δ] [Dup (f x)] (h : SH o Γ w) : SH o (f x :: Γ) w :=
  (SH.dup (SH.take (f := f) h)).imp fun _ _ ⟨h1, h2, hd, he, ha, hs⟩ => ⟨h1, h2, hd, he, ha, (Has.sat (f := f)).2 hs⟩
end
end Go.W
namespace Go.W
open Go
mutual
def wd : Kd → Nat
  | .st l => wds l
  | .tup l => wds l
  | _ => 1
def wds : List Kd → Nat
  | [] => 0
  | k :: ks => wd k + wds ks
end
def Kd.isSt : Kd → Bool | .st _ => true | _ => false
def Kd.noTup : Kd → Bool | .tup _ => false | _ => true
mutual
theorem KC_len : ∀ (k : Kd) (x : KT k), (KC k x).length = wd k
  | .st l, x => by rw [KC, wd]; exact KCs_len l x
  | .tup l, x => by rw [KC, wd]; exact KCs_len l x
  | .i _, _ | .b, _ | .s, _ | .p, _ | .ad, _ | .sl, _ | .m, _ | .md, _ | .v, _ => by simp [KC, wd]
theorem KCs_len : ∀ (l : List Kd) (x : KTs l), (KCs l x).length = wds l
  | [], _ => rfl
  | k :: ks, x => by rw [KCs, wds, List.length_append, KC_len k x.1, KCs_len ks x.2]
end
theorem KC_one {k : Kd} (h : k.isSt = false) (h' : k.noTup = true) (x : KT k) : KC k x = [KV k x] := by
  cases k <;> simp_all [Kd.isSt, Kd.noTup, KC, KV]
theorem KV_st {k : Kd} (h : k.isSt = true) (x : KT k) : KV k x = .agg (KC k x).toArray := by
  cases k <;> simp_all [Kd.isSt, KC, KV]
def okV (k : Kd) (x : KT k) : Prop := ∀ c ∈ KC k x, c.oneCell' = true
mutual
def plainK : Kd → Bool
  | .st l => plainKs l
  | .tup l => plainKs l
  | .v => false
  | _ => true
def plainKs : List Kd → Bool
  | [] => true
  | k :: ks => plainK k && plainKs ks
end
mutual
theorem okV_plain : ∀ {k : Kd}, plainK k = true → ∀ x : KT k, okV k x
  | .st l, h, x => by unfold okV; rw [KC]; rw [plainK] at h; exact okV_plains h x
  | .tup l, h, x => by unfold okV; rw [KC]; rw [plainK] at h; exact okV_plains h x
  | .i _, _, _ | .b, _, _ | .s, _, _ | .p, _, _ | .ad, _, _ | .sl, _, _ | .m, _, _ | .md, _, _ => by simp [okV, KC, Value.oneCell']
  | .v, h, _ => by simp [plainK] at h
theorem okV_plains : ∀ {l : List Kd}, plainKs l = true → ∀ x : KTs l, ∀ c ∈ KCs l x, c.oneCell' = true
  | [], _, _ => by simp [KCs]
  | k :: ks, h, x => by
    rw [plainKs, Bool.and_eq_true] at h
    rw [KCs]
    intro c hc
    rcases List.mem_append.1 hc with hc | hc
    · exact okV_plain h.1 x.1 c hc
    · exact okV_plains h.2 x.2 c hc
end
def tyOk (P : Program) (t : TypeId) (k : Kd) : Bool :=
  match P.underlying t, P.info? t with
  | some d, some i => d.isRow == k.isSt && Nat.beq i.size (wd k) && k.noTup
  | _, _ => false
class TyK (P : Program) (t : TypeId) (k : outParam Kd) : Prop where
  ok : tyOk P t k = true
class TyZ (P : Program) (t : TypeId) (k : outParam Kd) (z : outParam (KT k)) : Prop where
  ok : (P.info? t).bind (·.zero) = some (KV k z)
abbrev cellsO (l : List Value) (e : TypeId) : Obj := .cells l.toArray e (0, 0)
section
variable {P : Program} {w : World}
theorem TyK.spec {t : TypeId} {k : Kd} (h : TyK P t k) : ∃ d i, P.underlying t = some d ∧ P.info? t = some i ∧ d.isRow = k.isSt ∧ i.size = wd k ∧ k.noTup = true := by
  have := h.ok
  unfold tyOk at this
  split at this
  · rename_i d i hd hi; simp only [Bool.and_eq_true, beq_iff_eq, Nat.beq_eq] at this; exact ⟨d, i, hd, hi, this.1.1, this.1.2, this.2⟩
  · cases this
theorem run_loadAt_k {t : TypeId} {k : Kd} [hk : TyK P t k] {b off : Nat} {x : KT k} (hc : w.rangeAt b off (KC k x)) :
    (Instr.loadAt t (.pointer (some ⟨b, off, none⟩))).run P w = .ok (KV k x) w := by
  obtain ⟨d, i, hu, hi, hr, hs, ht⟩ := hk.spec
  cases hst : k.isSt with
  | true =>
    rw [KV_st hst]
    exact run_loadAt_mid w b off t _ d hc hu (by rw [hr, hst]) (by simp [hi, hs, KC_len])
  | false =>
    have hagg : (isAgg t).run P w = .ok false w := by
      unfold isAgg
      rw [Sem.run_bind, run_underlying hu w]
      rw [hst] at hr
      cases d <;> simp_all
    have h0 := hc 0 (KV k x) (by rw [KC_one hst ht]; rfl)
    simp only [Nat.add_zero] at h0
    simp [Instr.loadAt, Instr.sureAddr, loadVar, hagg, h0]
theorem run_storeAt_k {t : TypeId} {k : Kd} [hk : TyK P t k] {b off : Nat} {y : KT k} {cur : List Value} {e : TypeId} (hh : w.heap[b]? = some (cellsO cur e)) (hl : off + wd k ≤ cur.length) (hok : okV k y) :
    (Instr.storeAt t (.pointer (some ⟨b, off, none⟩)) (KV k y)).run P w = .ok () (w.setRow b (cur.take off ++ KC k y ++ cur.drop (off + wd k)).toArray) := by
  obtain ⟨d, i, hu, hi, hr, hs, ht⟩ := hk.spec
  have hcells : (KV k y).cells.toList = KC k y := by
    cases hst : k.isSt with
    | true => rw [KV_st hst]; simp [Value.cells]
    | false =>
      have h1 := KC_one hst ht y
      have h2 := hok (KV k y) (by rw [h1]; simp)
      rw [h1]
      generalize KV k y = v at h2
      cases v <;> first | rfl | simp [Value.oneCell'] at h2
  have hsz : (KV k y).cells.size = i.size := by rw [← Array.length_toList, hcells, KC_len, hs]
  have := run_storeCells_at P b off e (KC k y) 0 cur.toArray w hh (by rw [KC_len]; simpa using hl) hok
  simp only [Nat.add_zero, KC_len] at this
  simp only [Instr.storeAt, Instr.sureAddr, storeVar, Sem.run_bind, Sem.run_pure, Result.andThen_ok, sizeOf, typeInfo, program, Sem.run, hi, hsz, hcells]
  simpa using this
theorem heap_setRow {b : Nat} {cur : List Value} {e : TypeId} (hh : w.heap[b]? = some (cellsO cur e)) (l : List Value) (c : Nat) :
    (w.setRow b l.toArray).heap[c]? = if c = b then some (cellsO l e) else w.heap[c]? := by
  by_cases h : c = b
  · subst h; simp [setRow_heap w c _ _ _ _ hh]
  · simp [h, setRow_other w b c _ h]
theorem rangeAt_cells {b off : Nat} {pre mid post : List Value} {e : TypeId} {fr : Nat × Nat} (hh : w.heap[b]? = some (.cells (pre ++ mid ++ post).toArray e fr)) (ho : pre.length = off) : w.rangeAt b off mid := by
  intro j v hj
  rw [cell_of_row w b (off + j) _ e fr hh]
  have hlt := (List.getElem?_eq_some_iff.1 hj).1
  simp only [List.getElem?_toArray]
  rw [List.append_assoc, List.getElem?_append_right (by omega), List.getElem?_append_left (by omega), show off + j - pre.length = j by omega, hj]
end
mutual
def eqK : (k k' : Kd) → Option (PLift (k = k'))
  | .i a, .i b => match decEq a b with | isTrue h => some ⟨h ▸ rfl⟩ | isFalse _ => none
  | .b, .b => some ⟨rfl⟩ | .s, .s => some ⟨rfl⟩ | .p, .p => some ⟨rfl⟩ | .ad, .ad => some ⟨rfl⟩ | .sl, .sl => some ⟨rfl⟩
  | .m, .m => some ⟨rfl⟩ | .md, .md => some ⟨rfl⟩ | .v, .v => some ⟨rfl⟩
  | .st l, .st l' => match eqKs l l' with | some ⟨h⟩ => some ⟨h ▸ rfl⟩ | none => none
  | _, _ => none
def eqKs : (l l' : List Kd) → Option (PLift (l = l'))
  | [], [] => some ⟨rfl⟩
  | k :: ks, k' :: ks' => match eqK k k', eqKs ks ks' with | some ⟨h⟩, some ⟨h'⟩ => some ⟨h ▸ h' ▸ rfl⟩ | _, _ => none
  | _, _ => none
end
def same : (k k' : Kd) → KT k → Option (KT k')
  | .i a, .i b, x => match decEq a b with | isTrue _ => some x | isFalse _ => none
  | .b, .b, x => some x | .s, .s, x => some x | .p, .p, x => some x | .ad, .ad, x => some x | .sl, .sl, x => some x
  | .m, .m, x => some x | .md, .md, x => some x | .v, .v, x => some x
  | .st l, .st l', x => match eqKs l l' with | some ⟨h⟩ => some (h ▸ x) | none => none
  | _, _, _ => none
mutual
def getT : (k : Kd) → (n : Nat) → (k' : Kd) → KT k → Option (KT k')
  | .st l, n, k', x => match n, same (.st l) k' x with | 0, some y => some y | n, _ => getF l n k' x
  | k, n, k', x => match n with | 0 => same k k' x | _ => none
def getF : (l : List Kd) → (n : Nat) → (k' : Kd) → KTs l → Option (KT k')
  | [], _, _, _ => none
  | k :: ks, n, k', x => match Nat.blt n (wd k) with | true => getT k n k' x.1 | false => getF ks (n - wd k) k' x.2
end
mutual
def setT : (k : Kd) → (n : Nat) → (k' : Kd) → KT k → KT k' → Option (KT k)
  | .st l, n, k', x, y => match n, same k' (.st l) y with | 0, some z => some z | n, _ => setF l n k' x y
  | k, n, k', _, y => match n with | 0 => same k' k y | _ => none
def setF : (l : List Kd) → (n : Nat) → (k' : Kd) → KTs l → KT k' → Option (KTs l)
  | [], _, _, _, _ => none
  | k :: ks, n, k', x, y => match Nat.blt n (wd k) with
    | true => match setT k n k' x.1 y with | some z => some (z, x.2) | none => none
    | false => match setF ks (n - wd k) k' x.2 y with | some z => some (x.1, z) | none => none
end
theorem same_spec {k k' : Kd} {x : KT k} {y : KT k'} (h : same k k' x = some y) : KC k x = KC k' y := by
  unfold same at h
  split at h
  all_goals first
    | (cases h; rfl)
    | (split at h <;> first | (cases h; rfl) | (rename_i hh _; subst hh; cases h; rfl) | (cases h; done))
    | (cases h; done)
mutual
theorem getT_spec : ∀ (k : Kd) {k' : Kd} {n : Nat} {x : KT k} {y : KT k'}, getT k n k' x = some y → ∃ pre post, KC k x = pre ++ KC k' y ++ post ∧ pre.length = n
  | .st l, k', n, x, y, h => by
    unfold getT at h
    split at h
    · rename_i z hz; cases h
      exact ⟨[], [], by rw [same_spec hz]; simp, rfl⟩
    · rw [KC]; exact getF_spec l h
  | .tup _, k', n, x, y, h | .i _, k', n, x, y, h | .b, k', n, x, y, h | .s, k', n, x, y, h | .p, k', n, x, y, h | .ad, k', n, x, y, h | .sl, k', n, x, y, h | .m, k', n, x, y, h | .md, k', n, x, y, h | .v, k', n, x, y, h => by
    unfold getT at h
    split at h
    · exact ⟨[], [], by rw [same_spec h]; simp, rfl⟩
    · cases h
theorem getF_spec : ∀ (l : List Kd) {k' : Kd} {n : Nat} {x : KTs l} {y : KT k'}, getF l n k' x = some y → ∃ pre post, KCs l x = pre ++ KC k' y ++ post ∧ pre.length = n
  | [], _, _, _, _, h => by simp [getF] at h
  | k :: ks, k', n, x, y, h => by
    rw [getF] at h
    split at h
    · obtain ⟨pre, post, h1, h2⟩ := getT_spec k h
      exact ⟨pre, post ++ KCs ks x.2, by rw [KCs, h1]; simp, h2⟩
    · rename_i hb
      obtain ⟨pre, post, h1, h2⟩ := getF_spec ks h
      have hlt : ¬ n < wd k := by rw [← Nat.blt_eq]; simp [hb]
      exact ⟨KC k x.1 ++ pre, post, by rw [KCs, h1]; simp, by rw [List.length_append, KC_len, h2]; omega⟩
end
mutual
theorem setT_spec : ∀ (k : Kd) {k' : Kd} {n : Nat} {x z : KT k} {y : KT k'}, setT k n k' x y = some z → n + wd k' ≤ wd k ∧ KC k z = (KC k x).take n ++ KC k' y ++ (KC k x).drop (n + wd k')
  | .st l, k', n, x, z, y, h => by
    unfold setT at h
    split at h
    · rename_i u hu; cases h
      have h1 := same_spec hu
      have h2 : wd k' = wd (.st l) := by rw [← KC_len k' y, h1, KC_len]
      exact ⟨by omega, by rw [h1, List.drop_eq_nil_of_le (by rw [KC_len]; omega)]; simp⟩
    · rw [KC, KC, wd]; exact setF_spec l h
  | .tup _, k', n, x, z, y, h | .i _, k', n, x, z, y, h | .b, k', n, x, z, y, h | .s, k', n, x, z, y, h | .p, k', n, x, z, y, h | .ad, k', n, x, z, y, h | .sl, k', n, x, z, y, h | .m, k', n, x, z, y, h | .md, k', n, x, z, y, h | .v, k', n, x, z, y, h => by
    unfold setT at h
    split at h
    · have h1 := same_spec h
      have h2 := congrArg List.length h1
      rw [KC_len, KC_len] at h2
      exact ⟨by omega, by rw [h1, List.drop_eq_nil_of_le (by rw [KC_len]; omega)]; simp⟩
    · cases h
theorem setF_spec : ∀ (l : List Kd) {k' : Kd} {n : Nat} {x z : KTs l} {y : KT k'}, setF l n k' x y = some z → n + wd k' ≤ wds l ∧ KCs l z = (KCs l x).take n ++ KC k' y ++ (KCs l x).drop (n + wd k')
  | [], _, _, _, _, _, h => by simp [setF] at h
  | k :: ks, k', n, x, z, y, h => by
    rw [setF] at h
    split at h
    · split at h
      · rename_i u hu; cases h
        obtain ⟨h1, h2⟩ := setT_spec k hu
        refine ⟨by rw [wds]; omega, ?_⟩
        rw [KCs, KCs, h2, List.take_append_of_le_length (by rw [KC_len]; omega), List.drop_append_of_le_length (by rw [KC_len]; omega)]
        simp
      · cases h
    · rename_i hb
      split at h
      · rename_i u hu; cases h
        have hlt : ¬ n < wd k := by rw [← Nat.blt_eq]; simp [hb]
        obtain ⟨h1, h2⟩ := setF_spec ks hu
        refine ⟨by rw [wds]; omega, ?_⟩
        rw [KCs, KCs, h2, List.take_append, List.drop_append, KC_len, List.take_of_length_le (l := KC k x.1) (by rw [KC_len]; omega), List.drop_eq_nil_of_le (as := KC k x.1) (by rw [KC_len]; omega)]
        simp [show n + wd k' - wd k = n - wd k + wd k' by omega]
      · cases h
end
theorem cells_KV {k : Kd} {x : KT k} (ht : k.noTup = true) (hok : okV k x) : (KV k x).cells.toList = KC k x := by
  cases hst : k.isSt with
  | true => rw [KV_st hst]; simp [Value.cells]
  | false =>
    have h1 := KC_one hst ht x
    have h2 := hok (KV k x) (by rw [h1]; simp)
    rw [h1]
    generalize KV k x = v at h2
    cases v <;> first | rfl | simp [Value.oneCell'] at h2
def vr (a : Addr) (t : TypeId) (k : Kd) (x : KT k) : Assn := andA (a.off = 0 ∧ a.spot = none) (objA a.block (cellsO (KC k x) t))
def rv (a : Addr) (t : TypeId) (k : Kd) (x : KT k) : Assn := andA (a.off = 0 ∧ a.spot = none) (roA a.block (cellsO (KC k x) t))
instance {a : Addr} {t : TypeId} {k : Kd} {x : KT k} : Dup (rv a t k x) := inferInstanceAs (Dup (andA _ _))
class HasV (a : Addr) (t : outParam TypeId) (k : outParam Kd) (x : outParam (KT k)) (Γ : List Assn) (Δ : outParam (List Assn)) : Prop where
  sat : ∀ {π h}, Sat Γ π h ↔ Sat (vr a t k x :: Δ) π h
instance (priority := high) HasV.here {a : Addr} {t : TypeId} {k : Kd} {x : KT k} {Γ : List Assn} : HasV a t k x (vr a t k x :: Γ) Γ := ⟨Iff.rfl⟩
instance (priority := low) HasV.there {a : Addr} {t : TypeId} {k : Kd} {x : KT k} {B : Assn} {Γ Δ : List Assn} [h : HasV a t k x Γ Δ] : HasV a t k x (B :: Γ) (B :: Δ) := by
  have : Has (vr a t k) x Γ Δ := ⟨h.sat⟩
  exact ⟨(Has.there (B := B)).sat⟩
class RdV (a : Addr) (t : outParam TypeId) (k : outParam Kd) (x : outParam (KT k)) (Γ : List Assn) : Prop where
  rd : ∀ {o w}, SH o Γ w → ∃ b, a = ⟨b, 0, none⟩ ∧ w.heap[b]? = some (cellsO (KC k x) t)
theorem addr_eq {a : Addr} (h : a.off = 0 ∧ a.spot = none) : a = ⟨a.block, 0, none⟩ := by cases a; simp_all
instance (priority := high) RdV.here {a : Addr} {t : TypeId} {k : Kd} {x : KT k} {Γ : List Assn} : RdV a t k x (vr a t k x :: Γ) :=
  ⟨fun h => by obtain ⟨h1, h2⟩ := SH.and.1 h; exact ⟨a.block, addr_eq h1, h2.heap⟩⟩
instance (priority := high) RdV.hereRo {a : Addr} {t : TypeId} {k : Kd} {x : KT k} {Γ : List Assn} : RdV a t k x (rv a t k x :: Γ) :=
  ⟨fun h => by obtain ⟨h1, h2⟩ := SH.and.1 h; exact ⟨a.block, addr_eq h1, h2.heapRo⟩⟩
instance (priority := low) RdV.there {a : Addr} {t : TypeId} {k : Kd} {x : KT k} {B : Assn} {Γ : List Assn} [h : RdV a t k x Γ] : RdV a t k x (B :: Γ) := ⟨fun hs => h.rd hs.drop⟩
section
variable {P : Program} {o : Fix} {Γ Δ : List Assn} {w : World}
theorem ld_var {a : Addr} {t t' : TypeId} {k : Kd} {x : KT k} {K : KT k → World → Prop} (h : SH o Γ w) [hr : RdV a t k x Γ] [TyK P t' k] (hk : K x w) : ld P t' a k K w := by
  obtain ⟨b, rfl, hb⟩ := hr.rd h
  exact ⟨x, run_loadAt_k (rangeAt_cells (pre := []) (post := []) (by simpa using hb) rfl), hk⟩
theorem ld_at {b n : Nat} {t t' : TypeId} {k k' : Kd} {x : KT k} {y : KT k'} {K : KT k' → World → Prop} [TyK P t' k'] (hb : w.heap[b]? = some (cellsO (KC k x) t)) (hg : getT k n k' x = some y) (hk : K y w) : ld P t' ⟨b, n, none⟩ k' K w := by
  obtain ⟨pre, post, h1, h2⟩ := getT_spec _ hg
  rw [h1] at hb; exact ⟨y, run_loadAt_k (rangeAt_cells hb h2), hk⟩
theorem ld_fld {a : Addr} {n : Nat} {t t' : TypeId} {k k' : Kd} {x : KT k} {y : KT k'} {K : KT k' → World → Prop} (h : SH o Γ w) [hr : RdV a t k x Γ] [TyK P t' k'] (hk : K y w) (hg : getT k n k' x = some y := by rfl) : ld P t' (ad a n) k' K w := by
  obtain ⟨b, rfl, hb⟩ := hr.rd h
  simp only [ad, Nat.zero_add]; exact ld_at hb hg hk
theorem ld_fld0 {a : Addr} {t t' : TypeId} {k k' : Kd} {x : KT k} {y : KT k'} {K : KT k' → World → Prop} (h : SH o Γ w) [hr : RdV a t k x Γ] [TyK P t' k'] (hk : K y w) (hg : getT k 0 k' x = some y := by rfl) : ld P t' a k' K w := by
  obtain ⟨b, rfl, hb⟩ := hr.rd h
  exact ld_at hb hg hk
theorem sto_at {b n : Nat} {t t' : TypeId} {k k' : Kd} {x z : KT k} {y : KT k'} {K : World → Prop} [TyK P t' k'] (h : SH o (objA b (cellsO (KC k x) t) :: Δ) w) (hs : setT k n k' x y = some z) (hok : okV k' y)
    (hk : ∀ w', SH o (objA b (cellsO (KC k z) t) :: Δ) w' → K w') : sto P t' ⟨b, n, none⟩ k' y K w := by
  obtain ⟨h1, h2⟩ := setT_spec _ hs
  have hb := h.heap
  refine ⟨_, run_storeAt_k hb (by rw [KC_len]; exact h1) hok, hk _ ?_⟩
  rw [← h2]
  exact h.put _ (heap_setRow hb _) rfl rfl
theorem sto_fld {a : Addr} {n : Nat} {t t' : TypeId} {k k' : Kd} {x z : KT k} {y : KT k'} {K : World → Prop} (h : SH o Γ w) [hr : HasV a t k x Γ Δ] [TyK P t' k'] (hk : ∀ w', SH o (vr a t k z :: Δ) w' → K w')
    (hs : setT k n k' x y = some z := by rfl) (hok : okV k' y := by exact okV_plain rfl _) : sto P t' (ad a n) k' y K w := by
  obtain ⟨h1, h2⟩ := SH.and.1 (h.imp fun _ _ => hr.sat.1)
  have ha := addr_eq h1
  have : ad a n = ⟨a.block, n, none⟩ := by simp [ad, h1.1]
  rw [this]
  exact sto_at h2 hs hok fun w' h' => hk w' (SH.and.2 ⟨h1, h'⟩)
theorem sto_fld0 {a : Addr} {t t' : TypeId} {k k' : Kd} {x z : KT k} {y : KT k'} {K : World → Prop} (h : SH o Γ w) [hr : HasV a t k x Γ Δ] [TyK P t' k'] (hk : ∀ w', SH o (vr a t k z :: Δ) w' → K w')
    (hs : setT k 0 k' x y = some z := by rfl) (hok : okV k' y := by exact okV_plain rfl _) : sto P t' a k' y K w := by
  obtain ⟨h1, h2⟩ := SH.and.1 (h.imp fun _ _ => hr.sat.1)
  have ha := addr_eq h1
  rw [ha]
  exact sto_at h2 hs hok fun w' h' => hk w' (SH.and.2 ⟨h1, h'⟩)
theorem sto_var {a : Addr} {t t' : TypeId} {k : Kd} {x y : KT k} {K : World → Prop} (h : SH o Γ w) [hr : HasV a t k x Γ Δ] [TyK P t' k] (hk : ∀ w', SH o (vr a t k y :: Δ) w' → K w') (hok : okV k y := by exact okV_plain rfl _) : sto P t' a k y K w := by
  obtain ⟨h1, h2⟩ := SH.and.1 (h.imp fun _ _ => hr.sat.1)
  have ha := addr_eq h1
  rw [ha]
  refine ⟨_, run_storeAt_k h2.heap (by rw [KC_len]; omega) hok, hk _ ?_⟩
  refine SH.and.2 ⟨h1, h2.put _ (fun c => ?_) rfl rfl⟩
  have e : List.take 0 (KC k x) ++ KC k y ++ List.drop (0 + wd k) (KC k x) = KC k y := by
    rw [List.drop_eq_nil_of_le (by rw [KC_len]; omega)]; simp
  rw [e]; exact heap_setRow h2.heap _ c
theorem bx_ok {t : TypeId} {k : Kd} {x : KT k} {K : Addr → World → Prop} (h : SH o Γ w) [ht : TyK P t k] (hk : ∀ a w', SH o (vr a t k x :: Γ) w' → K a w') (hok : okV k x := by exact okV_plain rfl _) : bx P t k x K w := by
  have hc := cells_KV ht.spec.choose_spec.choose_spec.2.2.2.2 hok
  refine ⟨⟨w.heap.size, 0, none⟩, { w with heap := w.heap.push (.cells (KV k x).cells t) }, by simp [Instr.box, newVar, newRow, newObj, Sem.run, KV], hk _ _ (SH.and.2 ⟨⟨rfl, rfl⟩, ?_⟩)⟩
  have := h.new (cellsO (KC k x) t) (w' := { w with heap := w.heap.push (.cells (KV k x).cells t) }) (by simp [cellsO, ← hc]) rfl rfl
  exact this
theorem alo_ok {t : TypeId} {k : Kd} {z : KT k} {K : Addr → World → Prop} (h : SH o Γ w) [hz : TyZ P t k z] [ht : TyK P t k] (hk : ∀ a w', SH o (vr a t k z :: Γ) w' → K a w') (hok : okV k z := by exact okV_plain rfl _) : alo P t K w := by
  have hc := cells_KV ht.spec.choose_spec.choose_spec.2.2.2.2 hok
  have hz := hz.ok
  cases hi : P.info? t with
  | none => simp [hi] at hz
  | some i =>
    simp [hi] at hz
    refine ⟨⟨w.heap.size, 0, none⟩, { w with heap := w.heap.push (.cells (KV k z).cells t) }, by simp [Instr.alloc, zeroValue, typeInfo, program, hi, hz, newVar, newRow, newObj, Sem.run, KV], hk _ _ (SH.and.2 ⟨⟨rfl, rfl⟩, ?_⟩)⟩
    exact h.new (cellsO (KC k z) t) (w' := { w with heap := w.heap.push (.cells (KV k z).cells t) }) (by simp [cellsO, ← hc]) rfl rfl
end
end Go.W
