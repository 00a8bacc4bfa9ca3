/- Contracts of functions of the program, proved on their short texts. No condition. -/
import Derived.Test.YtpjhflboedicpaaGreatDoorMe
set_option linter.unusedVariables false
set_option linter.unusedSimpArgs false
namespace Go.Proofs.YtpjhflboedicpaaGreatDoor
open Go Go.W
set_option maxRecDepth 100000
def QC (g : zT0) (mk key start : Int) : Prop := 0 ≤ key ∧ key ≤ 1048576 ∧ 0 ≤ start ∧ start ≤ 1099511627776 ∧ start % g.2.1 = 0 ∧ start ≤ mk
structure StOk (g : zT0) (N mk lt bd n : Int) (xs : List zT6) : Prop where
  gk : gokB g = true
  mrk : -1 ≤ mk ∧ mk ≤ 1099511627776
  cnt : 0 ≤ lt ∧ 0 ≤ bd ∧ lt + bd ≤ n ∧ n ≤ N
  Nb : N ≤ 1073741824
  len : xs.length ≤ 64
  srt : SortedC xs
  cell : ∀ c ∈ xs, CellOk (QC g mk) (8 * N) c
  opn : ∀ c ∈ xs, closedB g c.2.1 mk = false
theorem StOk.zero {g : zT0} (hg : gokB g = true) : StOk g 0 (-1) 0 0 0 [] :=
  ⟨hg, by omega, by omega, by omega, by simp, List.Pairwise.nil, by simp, by simp⟩
section
variable {o : Fix} {Γ Δ : List Assn} {w : World}
theorem Check_ok {R : Int → World → Prop} {g : zT0} {N mk lt bd n : Int} {L : Sl} {xs : List zT6} (hs : StOk g N mk lt bd n xs) (h : SH o Γ w) [hr : RdS L zk6 xs Γ] (hR : ∀ w', SH o Γ w' → R 0 w') :
    mcall P n_zfp [KV zk0 g, KV zk1 (mk, lt, bd, n, L, ())] I R w := by
  obtain ⟨c1, c2, c3, c4⟩ := hs.cnt
  obtain ⟨m1, m2⟩ := hs.mrk
  have hN := hs.Nb
  apply zfp_call
  refine bx_ok h fun a w h => ?_
  refine bx_ok h fun b w h => ?_
  have h : SH o (vr b zt9 zk1 (mk, lt, bd, n, L, ()) :: vr a zt5 zk0 g :: Γ) w := h
  refine ld_var (a := a) h ?_
  refine gCheck_ok hs.gk h fun w h => ?_
  refine mif_ok (fun _ => ?_) (fun q => by cases q)
  have hlen := h.len (s := L)
  have hl64 := hs.len
  have body : ∀ ok w, ok = true → SH o (vr b zt9 zk1 (mk, lt, bd, n, L, ()) :: vr a zt5 zk0 g :: Γ) w → zfp_1 R a b ok w := by
    rintro _ w rfl h
    unfold zfp_1 zfp_3
    refine ld_fld (a := b) h ?_
    unfold zfp_4
    refine loop_ok (fun (i : Nat) st w => st = (true, (i : Int), ()) ∧ i ≤ xs.length ∧ SH o (vr b zt9 zk1 (mk, lt, bd, n, L, ()) :: vr a zt5 zk0 g :: Γ) w) (fun i => xs.length - i) 0 ⟨rfl, by omega, h⟩ ?_
    clear h
    rintro i _ w cont ⟨rfl, hi, h⟩ hc
    unfold zfp_5
    dsimp only
    refine mif_ok (fun q => ?_) (fun q => ?_)
    · have hlt : i < xs.length := by simp at q; omega
      obtain ⟨⟨q1, q2, q3, q4, q5, q6⟩, hag, hcn⟩ := hs.cell _ (List.getElem_mem hlt)
      have hop := hs.opn _ (List.getElem_mem hlt)
      refine ixa_ok (s := L) h (by omega) (by omega) fun e ea => ?_
      refine ld_el ea h (List.getElem?_eq_getElem hlt) ?_
      refine alo_ok h fun c w h => ?_
      refine sto_var (a := c) h fun w h => ?_
      refine mif_ok (fun q => by cases q) (fun _ => ?_)
      refine mdraw_ok h fun w h => ?_
      refine ld_fld0 (a := c) h ?_
      refine ld_fld (a := c) h ?_
      refine bsl_ok h fun u w h => ?_
      refine ewithin_ok (xs := [xs[i].1, xs[i].2.1]) h (by simp) fun w h => ?_
      refine mif_ok (fun _ => ?_) (fun q => by simp [inB] at q; omega)
      refine ld_fld0 (a := c) h ?_
      refine mif_ok (fun _ => ?_) (fun q => by simp at q; omega)
      refine ld_fld (a := c) h ?_
      refine ld_fld (a := a) h ?_
      have hg := gok hs.gk
      refine mdz_ok (by omega) ?_
      refine mif_ok (fun _ => ?_) (fun q => ?_)
      · refine ld_fld (a := c) h ?_
        refine ld_fld0 (a := b) h ?_
        refine mif_ok (fun _ => ?_) (fun q => by simp at q; omega)
        refine ld_var (a := a) h ?_
        refine ld_fld (a := c) h ?_
        refine ld_fld0 (a := b) h ?_
        refine Closed_ok hs.gk m2 h fun w h => ?_
        refine mif_ok (fun _ => ?_) (fun q => by rw [hop] at q; cases q)
        refine ld_fld (a := c) (k' := zk5) h ?_
        refine fCheck2_ok hag h fun w h => ?_
        refine mif_ok (fun _ => ?_) (fun q => by cases q)
        refine mif_ok (fun q => ?_) (fun q => ?_)
        · unfold zfp_6
          rw [w64_of (by omega) (by omega)]
          exact hc (i + 1) _ w (by omega) ⟨rfl, hlt, h.to⟩
        · have hi0 : 0 < i := by simp at q; omega
          refine ld_fld (a := b) h ?_
          dsimp only
          rw [w64_of (x := (i : Int) - 1) (by omega) (by omega)]
          have hlt1 : i - 1 < xs.length := by omega
          have ei : ((i : Int) - 1).toNat = i - 1 := by omega
          refine ixa_ok (s := L) h (by omega) (by omega) fun e1 ea1 => ?_
          rw [ei] at ea1
          refine ld_el ea1 h (List.getElem?_eq_getElem hlt1) ?_
          refine ld_var (a := c) h ?_
          refine order_ok h fun w h => ?_
          have hord : decide (orderM xs[i - 1] xs[i] < 0) = true := by
            rw [decide_eq_true_iff, order_lt]
            exact List.pairwise_iff_getElem.1 hs.srt (i - 1) i hlt1 hlt (by omega)
          rw [hord]
          unfold zfp_6
          rw [w64_of (by omega) (by omega)]
          exact hc (i + 1) _ w (by omega) ⟨rfl, hlt, h.to⟩
      · rw [Int.tmod_eq_emod_of_nonneg q3, q5] at q; simp at q
    · unfold zfp_2
      refine mif_ok (fun q => by cases q) (fun _ => ?_)
      exact hR w h.drop.drop
  have e64 : decide ((L.len : Int) ≤ 64) = true := by rw [decide_eq_true_iff]; omega
  refine ld_fld0 (a := b) h ?_
  refine mif_ok (fun _ => ?_) (fun q => ?_)
  rotate_left
  · refine ld_fld0 (a := b) h ?_
    refine bsl_ok h fun u w h => ?_
    refine ewithin_ok (xs := [mk]) h (by simp) fun w h => ?_
    refine mif_ok (fun _ => ?_) (fun q2 => by simp [inB] at q q2; omega)
    refine ld_fld (a := b) h ?_
    refine ld_fld (a := b) h ?_
    refine ld_fld (a := b) h ?_
    refine bsl_ok h fun u w h => ?_
    refine ewithin_ok (xs := [lt, bd, n]) h (by simp) fun w h => ?_
    refine mif_ok (fun _ => ?_) (fun q => by simp [inB] at q; omega)
    refine ld_fld (a := b) h ?_
    refine ld_fld (a := b) h ?_
    refine ld_fld (a := b) h ?_
    dsimp only
    rw [w64_of (x := n - bd) (by omega) (by omega)]
    refine mif_ok (fun _ => ?_) (fun q => by simp at q; omega)
    refine ld_fld (a := b) h ?_
    exact body _ w e64 h.to
  · refine ld_fld (a := b) h ?_
    refine ld_fld (a := b) h ?_
    refine ld_fld (a := b) h ?_
    refine bsl_ok h fun u w h => ?_
    refine ewithin_ok (xs := [lt, bd, n]) h (by simp) fun w h => ?_
    refine mif_ok (fun _ => ?_) (fun q => by simp [inB] at q; omega)
    refine ld_fld (a := b) h ?_
    refine ld_fld (a := b) h ?_
    refine ld_fld (a := b) h ?_
    dsimp only
    rw [w64_of (x := n - bd) (by omega) (by omega)]
    refine mif_ok (fun _ => ?_) (fun q => by simp at q; omega)
    refine ld_fld (a := b) h ?_
    exact body _ w e64 h.to
end
end Go.Proofs.YtpjhflboedicpaaGreatDoor
namespace Go.Proofs.YtpjhflboedicpaaGreatDoor
open Go Go.W
set_option maxRecDepth 100000
def recIn (r : Rec) : Bool := inB r.1 && inB r.2.1 && decide (r.1 ≤ 1048576)
theorem startsM_len {g : zT0} {t : Int} {k : Nat} : (startsM g t k).length ≤ k := by
  unfold startsM; exact Nat.le_trans (List.length_filter_le ..) (by simp)
theorem startsM_mem {g : zT0} {t s : Int} {k : Nat} (hg : gokB g = true) (ht : 0 ≤ t) (hk : (k : Int) ≤ g.1 / g.2.1) (hs : s ∈ startsM g t k) : 0 ≤ s ∧ s % g.2.1 = 0 ∧ s ≤ t := by
  obtain ⟨g1, g2, g3, g4, g5, g6, g7, g8⟩ := gok hg
  unfold startsM at hs
  obtain ⟨h1, h2⟩ := List.mem_filter.1 hs
  obtain ⟨j, hj, rfl⟩ := List.mem_map.1 h1
  have hj' : j < k := by simpa using hj
  have h0 : 0 ≤ startAt g t j := by simpa using h2
  have e1 := Int.mul_ediv_add_emod t g.2.1
  have e2 := Int.mul_ediv_add_emod g.1 g.2.1
  have e3 := Int.emod_nonneg t (show g.2.1 ≠ 0 by omega)
  have e4 : g.2.1 * ((j : Int) + 1) ≤ g.2.1 * (g.1 / g.2.1) := Int.mul_le_mul_of_nonneg_left (by omega) (by omega)
  refine ⟨h0, ?_, ?_⟩
  · have : startAt g t j = g.2.1 * (t / g.2.1 - g.1 / g.2.1 + ((j : Int) + 1)) := by
      unfold startAt; rw [Int.mul_add _ (t / g.2.1 - g.1 / g.2.1), Int.mul_sub]; omega
    rw [this]; exact Int.mul_emod_right ..
  · unfold startAt; omega
section
variable {o : Fix} {Γ Δ : List Assn} {w : World}
def overA (a : Addr) (ys : List zT6) : Assn := exA fun l : Sl => starA [vr a zt8 .sl l, slO l zth zk6 ys]
theorem overA_open {a : Addr} {ys : List zT6} : SH o (overA a ys :: Γ) w ↔ ∃ l, SH o (vr a zt8 .sl l :: slO l zth zk6 ys :: Γ) w := by
  constructor
  · intro h
    obtain ⟨l, h⟩ := SH.ex.1 h
    exact ⟨l, SH.star.1 h⟩
  · rintro ⟨l, h⟩
    exact SH.ex.2 ⟨l, SH.star.2 h⟩
theorem Feed1_ok {R : (zT1 × Sl × Int × Unit) → World → Prop} {g : zT0} {mk lt bd n : Int} {l : Sl} {ys : List zT6} {a1 a2 a3 a4 : Addr} {r : Rec} {z : zT1} (hg : gokB g = true) (hm : mx mk r.2.1 ≤ 1099511627776) (hy : ys.length ≤ 64)
    (h : SH o (vr a2 zt9 zk1 (mk, lt, bd, n, l, ()) :: slO l zth zk6 ys :: vr a1 zt5 zk0 g :: vr a3 ztc zk2 r :: vr a4 zt9 zk1 z :: Γ) w)
    (hR : ∀ L' V w', SH o (slO L' zth zk6 (ys.filter fun c => !closedB g c.2.1 (mx mk r.2.1)) :: slO V zth zk6 (ys.filter fun c => closedB g c.2.1 (mx mk r.2.1)) :: Γ) w' → R ((mx mk r.2.1, lt, bd, n, L', ()), V, 0, ()) w') : zf5_1 R a1 a2 a3 a4 w := by
  unfold zf5_1
  refine ld_fld0 (a := a2) h ?_
  refine ld_fld (a := a3) h ?_
  refine sto_fld0 (a := a2) h fun w h => ?_
  refine alo_ok h fun b w h => ?_
  refine ld_fld (a := a2) h ?_
  dsimp only
  generalize hmk : mx mk r.2.1 = m at *
  have h : SH o (vr b zt8 .sl ⟨none, 0, 0⟩ :: vr a2 zt9 zk1 (m, lt, bd, n, l, ()) :: slO l zth zk6 ys :: vr a1 zt5 zk0 g :: vr a3 ztc zk2 r :: vr a4 zt9 zk1 z :: Γ) w := h
  have h := h.nilS zth zk6
  have h := overA_open.2 ⟨_, h.swap⟩
  have h : SH o (slO l zth zk6 ys :: overA b [] :: vr a2 zt9 zk1 (m, lt, bd, n, l, ()) :: vr a1 zt5 zk0 g :: vr a3 ztc zk2 r :: vr a4 zt9 zk1 z :: Γ) w := h.to
  refine DeleteFuncC_ok (p := fun c => closedB g c.2.1 m) (G := fun k => overA b ((ys.take k).filter fun c => closedB g c.2.1 m) :: vr a2 zt9 zk1 (m, lt, bd, n, l, ()) :: vr a1 zt5 zk0 g :: vr a3 ztc zk2 r :: vr a4 zt9 zk1 z :: Γ)
    (by simpa using h) (by omega) (fun k A zs x w K hk h hK => ?_) fun L' w h => ?_
  · have hkl := (List.getElem?_eq_some_iff.1 hk).1
    show mcall P n_zfz [KV zk6 x, .pointer (some a1), .pointer (some a2), .pointer (some b)] .b K w
    apply zfz_call
    have h : SH o (overA b ((ys.take k).filter fun c => closedB g c.2.1 m) :: slO l zth zk6 zs :: A :: vr a2 zt9 zk1 (m, lt, bd, n, l, ()) :: vr a1 zt5 zk0 g :: vr a3 ztc zk2 r :: vr a4 zt9 zk1 z :: Γ) w := h.to
    obtain ⟨V, h⟩ := overA_open.1 h
    have htk : ys.take (k + 1) = ys.take k ++ [x] := by rw [List.take_add_one, hk]; rfl
    refine bx_ok h fun c w h => ?_
    refine ld_var (a := a1) h ?_
    refine ld_fld (a := c) h ?_
    refine ld_fld0 (a := a2) h ?_
    refine Closed_ok hg hm h fun w h => ?_
    refine mif_ok (fun q => ?_) (fun q => ?_)
    · have hq : closedB g x.2.1 m = false := by simpa using q
      have := hK w (by
        rw [htk, List.filter_append]
        have e : [x].filter (fun c => closedB g c.2.1 m) = [] := by simp [hq]
        rw [e, List.append_nil]
        have h : SH o (vr b zt8 .sl V :: slO V zth zk6 ((ys.take k).filter fun c => closedB g c.2.1 m) :: slO l zth zk6 zs :: A :: vr a2 zt9 zk1 (m, lt, bd, n, l, ()) :: vr a1 zt5 zk0 g :: vr a3 ztc zk2 r :: vr a4 zt9 zk1 z :: Γ) w := h.to
        have h := overA_open.2 ⟨_, h⟩
        exact h.to)
      rwa [hq] at this
    · have hq : closedB g x.2.1 m = true := by simpa using q
      refine ld_fld0 (a := b) h ?_
      refine ld_var (a := c) h ?_
      refine bsl_ok h fun u w h => ?_
      have hfl : ((ys.take k).filter fun c => closedB g c.2.1 m).length ≤ 64 := Nat.le_trans (List.length_filter_le ..) (by simp; omega)
      refine app_ok h (by simp; omega) (fun y _ => okV_plain rfl y) fun V2 w h => ?_
      refine sto_fld0 (a := b) h fun w h => ?_
      have := hK w (by
        rw [htk, List.filter_append]
        have e : [x].filter (fun c => closedB g c.2.1 m) = [x] := by simp [hq]
        rw [e]
        have h : SH o (vr b zt8 .sl V2 :: slO V2 zth zk6 ((ys.take k).filter (fun c => closedB g c.2.1 m) ++ [x]) :: slO l zth zk6 zs :: A :: vr a2 zt9 zk1 (m, lt, bd, n, l, ()) :: vr a1 zt5 zk0 g :: vr a3 ztc zk2 r :: vr a4 zt9 zk1 z :: Γ) w := h.to
        have h := overA_open.2 ⟨_, h⟩
        exact h.to)
      rwa [hq] at this
  · rw [List.take_length] at h
    have h : SH o (overA b (ys.filter fun c => closedB g c.2.1 m) :: vr a2 zt9 zk1 (m, lt, bd, n, l, ()) :: vr a4 zt9 zk1 z :: slO L' zth zk6 (ys.filter fun c => !closedB g c.2.1 m) :: Γ) w := h.to
    obtain ⟨V, h⟩ := overA_open.1 h
    refine sto_fld (a := a2) h fun w h => ?_
    refine mdraw_ok h fun w h => ?_
    refine ld_var (a := a2) h ?_
    refine ld_var (a := b) h ?_
    refine sto_var (a := a4) h fun w h => ?_
    refine mst_fld0 (a := b) h ?_
    refine ld_var (a := a4) h ?_
    exact hR L' V w h.to
theorem Feed_ok {R : (zT1 × Sl × Int × Unit) → World → Prop} {g : zT0} {N mk lt bd n : Int} {L : Sl} {xs : List zT6} {r : Rec} (hs : StOk g N mk lt bd n xs) (hN : N + 1 ≤ 1073741824) (hl : r.2.2.1.length ≤ 9223372036854775807) (h : SH o Γ w) [hr : RdS L zk6 xs Γ]
    (hE : recIn r = false → ∀ w', SH o Γ w' → R ((0, 0, 0, 0, ⟨none, 0, 0⟩, ()), ⟨none, 0, 0⟩, 1, ()) w')
    (hR : recIn r = true → ∀ mk' lt' bd' L' ys V w', StOk g (N + 1) mk' lt' bd' (n + 1) ys → SH o (slR L' zk6 ys :: Γ) w' → R ((mk', lt', bd', n + 1, L', ()), V, 0, ()) w') :
    mcall P n_zf5 [KV zk0 g, KV zk1 (mk, lt, bd, n, L, ()), KV zk2 r] (.tup [zk1, .sl, I]) R w := by
  obtain ⟨c1, c2, c3, c4⟩ := hs.cnt
  obtain ⟨m1, m2⟩ := hs.mrk
  have hl64 := hs.len
  apply zf5_call
  refine bx_ok h fun a1 w h => ?_
  refine bx_ok h fun a2 w h => ?_
  refine bx_ok h fun a3 w h => ?_
  refine alo_ok h fun a4 w h => ?_
  have h : SH o (vr a2 zt9 zk1 (mk, lt, bd, n, L, ()) :: vr a1 zt5 zk0 g :: vr a3 ztc zk2 r :: vr a4 zt9 zk1 (0, 0, 0, 0, ⟨none, 0, 0⟩, ()) :: Γ) w := h.to
  refine ld_var (a := a1) h ?_
  refine ld_var (a := a2) h ?_
  refine Check_ok hs h fun w h => ?_
  refine mif_ok (fun q => by cases q) (fun _ => ?_)
  refine ld_fld0 (a := a3) h ?_
  refine ld_fld (a := a3) h ?_
  refine bsl_ok h fun u w h => ?_
  refine ewithin_ok (xs := [r.1, r.2.1]) h (by simp) fun w h => ?_
  have hin : [r.1, r.2.1].all inB = (inB r.1 && inB r.2.1) := by simp
  rw [hin]
  refine mif_ok (fun q => ?_) (fun q => ?_)
  · refine sto_var (a := a4) h fun w h => ?_
    refine ld_var (a := a4) h ?_
    refine hE ?_ w h.to
    have q : (inB r.1 && inB r.2.1) = false := (Bool.not_eq_true' _).mp q
    unfold recIn; rw [q, Bool.false_and]
  have hin2 : (inB r.1 && inB r.2.1) = true := by simpa using q
  refine ld_fld0 (a := a3) h ?_
  refine mif_ok (fun q => ?_) (fun q => ?_)
  · refine sto_var (a := a4) h fun w h => ?_
    refine ld_var (a := a4) h ?_
    refine hE ?_ w h.to
    have q : r.1 > 1048576 := by simpa using q
    have e : decide (r.1 ≤ 1048576) = false := by rw [decide_eq_false_iff_not]; omega
    unfold recIn; rw [e, Bool.and_false]
  have hk : r.1 ≤ 1048576 := by simp at q; omega
  have hrec : recIn r = true := by unfold recIn; rw [hin2, Bool.true_and, decide_eq_true_iff]; exact hk
  obtain ⟨k0, t0, t1⟩ : 0 ≤ r.1 ∧ 0 ≤ r.2.1 ∧ r.2.1 ≤ 1099511627776 := by simp [inB] at hin2; omega
  have hNN := hs.Nb
  refine ld_fld (a := a2) h ?_
  refine mif_ok (fun q => by simp at q; omega) (fun _ => ?_)
  refine ld_fld (a := a2) h ?_
  refine CloneC_ok (s := L) h (by omega) fun l w h => ?_
  refine sto_fld (a := a2) h fun w h => ?_
  refine ld_fld (a := a2) h ?_
  refine sto_fld (a := a2) h fun w h => ?_
  rw [w64_of (by dsimp only; omega) (by dsimp only; omega)] at h
  have h : SH o (vr a2 zt9 zk1 (mk, lt, bd, n + 1, l, ()) :: slO l zth zk6 xs :: vr a1 zt5 zk0 g :: vr a3 ztc zk2 r :: vr a4 zt9 zk1 (0, 0, 0, 0, ⟨none, 0, 0⟩, ()) :: Γ) w := h.to
  refine ld_var (a := a3) h ?_
  refine Value_ok (r := r) hl h fun v ok w hv h => ?_
  refine mif_ok (fun q => ?_) (fun q => ?_)
  · refine ld_fld (a := a2) h ?_
    refine sto_fld (a := a2) h fun w h => ?_
    rw [w64_of (by dsimp only; omega) (by dsimp only; omega)] at h
    refine ld_var (a := a2) h ?_
    refine sto_var (a := a4) h fun w h => ?_
    refine ld_var (a := a4) h ?_
    have h : SH o (slO l zth zk6 xs :: Γ) w := h.to
    exact hR hrec mk lt (bd + 1) l xs _ w ⟨hs.gk, ⟨m1, m2⟩, by omega, hN, hl64, hs.srt, fun c hc => (hs.cell c hc).more (by omega), hs.opn⟩ (slO_freeze h)
  have hok : ok = true := by simpa using q
  have hmx : mk ≤ mx mk r.2.1 ∧ r.2.1 ≤ mx mk r.2.1 ∧ mx mk r.2.1 ≤ 1099511627776 := by unfold mx; split <;> omega
  have last : ∀ lt' ys w, 0 ≤ lt' → lt' + bd ≤ n + 1 → ys.length ≤ 64 → SortedC ys → (∀ c ∈ ys, CellOk (QC g (mx mk r.2.1)) (8 * (N + 1)) c) → ∀ l,
      SH o (vr a2 zt9 zk1 (mk, lt', bd, n + 1, l, ()) :: slO l zth zk6 ys :: vr a1 zt5 zk0 g :: vr a3 ztc zk2 r :: vr a4 zt9 zk1 (0, 0, 0, 0, ⟨none, 0, 0⟩, ()) :: Γ) w → zf5_1 R a1 a2 a3 a4 w := by
    intro lt' ys w g1 g2 g3 g4 g5 l h
    refine Feed1_ok hs.gk hmx.2.2 g3 h fun L' V w h => ?_
    have h : SH o (slO L' zth zk6 (ys.filter fun c => !closedB g c.2.1 (mx mk r.2.1)) :: Γ) w := h.to
    refine hR hrec _ lt' bd L' _ V w ⟨hs.gk, ⟨by omega, hmx.2.2⟩, by omega, hN, Nat.le_trans (List.length_filter_le ..) g3, g4.sublist List.filter_sublist, fun c hc => g5 c (List.mem_filter.1 hc).1, fun c hc => ?_⟩ (slO_freeze h)
    simpa using (List.mem_filter.1 hc).2
  have hcells : ∀ c ∈ xs, CellOk (QC g (mx mk r.2.1)) (8 * N) c := fun c hc => by
    obtain ⟨⟨q1, q2, q3, q4, q5, q6⟩, q7, q8⟩ := hs.cell c hc
    exact ⟨⟨q1, q2, q3, q4, q5, by omega⟩, q7, q8⟩
  refine ld_var (a := a1) h ?_
  refine ld_fld (a := a3) h ?_
  refine Starts_ok hs.gk ⟨t0, t1⟩ h fun st w h => ?_
  have hg := gok hs.gk
  have hq0 : 0 ≤ g.1 / g.2.1 := Int.ediv_nonneg (by omega) (by omega)
  have hmem : ∀ s ∈ startsM g r.2.1 (g.1 / g.2.1).toNat, 0 ≤ s ∧ s % g.2.1 = 0 ∧ s ≤ r.2.1 := fun s hs' => startsM_mem hs.gk t0 (by omega) hs'
  have hsl : (startsM g r.2.1 (g.1 / g.2.1).toNat).length ≤ 8 := Nat.le_trans startsM_len (by omega)
  generalize startsM g r.2.1 (g.1 / g.2.1).toNat = sts at h hmem hsl
  refine DeleteFunc_int_ok (p := fun at_ => closedB g at_ mk) h (by omega) (fun ys x w K h hK => ?_) fun st2 w h => ?_
  · show mcall P n_zfv [.int .i64 x, .pointer (some a1), .pointer (some a2)] .b K w
    apply zfv_call
    refine ld_var (a := a1) h ?_
    refine ld_fld0 (a := a2) h ?_
    refine Closed_ok hs.gk m2 h fun w h => ?_
    exact hK w h
  have hsl2 : (sts.filter fun x => !closedB g x mk).length ≤ 8 := Nat.le_trans (List.length_filter_le ..) hsl
  have hmem2 : ∀ s ∈ sts.filter fun x => !closedB g x mk, 0 ≤ s ∧ s % g.2.1 = 0 ∧ s ≤ r.2.1 := fun s hs' => hmem s (List.mem_filter.1 hs').1
  generalize (sts.filter fun x => !closedB g x mk) = sts2 at h hsl2 hmem2
  have late : ∀ {Δ : List Assn} w, SH o (vr a2 zt9 zk1 (mk, lt, bd, n + 1, l, ()) :: slO l zth zk6 xs :: vr a1 zt5 zk0 g :: vr a3 ztc zk2 r :: vr a4 zt9 zk1 (0, 0, 0, 0, ⟨none, 0, 0⟩, ()) :: Γ) w →
      (ld P zt1 (ad a2 1) I fun (x33 : Int) => sto P zt1 (ad a2 1) I (w64 (x33 + 1)) <| zf5_1 R a1 a2 a3 a4) w := by
    intro _ w h
    refine ld_fld (a := a2) h ?_
    refine sto_fld (a := a2) h fun w h => ?_
    rw [w64_of (by dsimp only; omega) (by dsimp only; omega)] at h
    exact last (lt + 1) xs w (by omega) (by omega) hl64 hs.srt (fun c hc => (hcells c hc).more (by omega)) l h
  refine mif_ok (fun q => ?_) (fun q => ?_)
  · exact late (Δ := []) w h.to
  refine ld_fld0 (a := a3) h ?_
  have h : SH o (vr a2 zt9 zk1 (mk, lt, bd, n + 1, l, ()) :: slO l zth zk6 xs :: slO st2 zt1 I sts2 :: vr a1 zt5 zk0 g :: vr a3 ztc zk2 r :: vr a4 zt9 zk1 (0, 0, 0, 0, ⟨none, 0, 0⟩, ()) :: Γ) w := h.to
  refine take_ok (N := 8 * N) (Q := QC g (mx mk r.2.1)) (hv hok) hs.srt hcells ⟨by omega, by omega⟩ (fun s hs' => ?_) hl64 hsl2 h (fun l' ys w y1 y2 y3 h => ?_) (fun w h => ?_)
  · obtain ⟨q1, q2, q3⟩ := hmem2 s hs'
    exact ⟨k0, hk, q1, by omega, q2, by omega⟩
  · refine mif_ok (fun q => by cases q) (fun _ => ?_)
    exact last lt ys w (by omega) (by omega) y3 y1 (fun c hc => (y2 c hc).more (by omega)) l' h.to
  · refine mif_ok (fun _ => ?_) (fun q => by cases q)
    exact late (Δ := []) w h.to
end
end Go.Proofs.YtpjhflboedicpaaGreatDoor
namespace Go.Proofs.YtpjhflboedicpaaGreatDoor
open Go Go.W
set_option maxRecDepth 100000
section
variable {o : Fix} {Γ Δ : List Assn} {w : World}
theorem rvPut1_any {R : Bs → World → Prop} {u : Nat} (hu : u < 18446744073709551616) (h : SH o Γ w) (hR : ∀ s w', SH o Γ w' → R s w') : zf3q_1 R (u : Int) w := by
  unfold zf3q_1 zf3q_2
  have h := h.nilS zt3 (.i .u8)
  refine loop_ok (fun (q : Nat × List Int) st w => ∃ b, st = ((q.1 : Int), b, ()) ∧ q.1 * 128 ^ q.2.length < 18446744073709551616 ∧ q.2.length ≤ 10 ∧ SH o (slO b zt3 (.i .u8) q.2 :: Γ) w) (fun q => q.1) (u, [])
    ⟨_, rfl, by simpa using hu, by simp, h⟩ ?_
  clear h
  rintro ⟨v, xs⟩ _ w cont ⟨b, rfl, h1, h2, h⟩ hc
  simp only at h1 h2 h hc
  unfold zf3q_4
  dsimp only
  refine mif_ok (fun g => ?_) (fun g => ?_)
  · have hv : 128 ≤ v := by simp at g; omega
    have hpow : 128 ^ (xs.length + 1) < 128 ^ 10 := by
      have e1 : 128 * 128 ^ xs.length ≤ v * 128 ^ xs.length := Nat.mul_le_mul_right _ hv
      have e2 : (128 : Nat) ^ (xs.length + 1) = 128 * 128 ^ xs.length := by rw [Nat.pow_succ, Nat.mul_comm]
      have e3 : (18446744073709551616 : Nat) ≤ 128 ^ 10 := by decide
      omega
    have hlt : xs.length + 1 < 10 := (Nat.pow_lt_pow_iff_right (by omega)).1 hpow
    refine bsl_ok h fun x w h => ?_
    refine app_ok h (by simp; omega) (fun y _ => okV_plain rfl y) fun b2 w h => ?_
    have hvb : v < 18446744073709551616 := by
      have : v * 1 ≤ v * 128 ^ xs.length := Nat.mul_le_mul_left _ (Nat.one_le_pow _ _ (by omega))
      omega
    have e : wr64 ((v : Int).tdiv 128) = ((v / 128 : Nat) : Int) := by
      rw [Int.tdiv_eq_ediv_of_nonneg (by omega), wr64_eq]; omega
    rw [e]
    refine hc (v / 128, xs ++ [wr8 (wr64 ((v : Int).tmod 128 + 128))]) _ w (by simp only; omega) ⟨b2, rfl, ?_, by simp; omega, h.to⟩
    simp only [List.length_append, List.length_cons, List.length_nil, Nat.zero_add]
    rw [Nat.pow_succ, Nat.mul_comm (128 ^ xs.length), ← Nat.mul_assoc]
    refine Nat.lt_of_le_of_lt (Nat.mul_le_mul_right _ (Nat.div_mul_le_self v 128)) h1
  · unfold zf3q_3
    refine bsl_ok h fun x w h => ?_
    refine app_ok h (by simp; omega) (fun y _ => okV_plain rfl y) fun b2 w h => ?_
    refine conv_bs (h.rd (s := b2)) ?_
    exact hR _ w h.to
theorem rvPut_any {R : Bs → World → Prop} {n : Int} (h : SH o Γ w) (hR : ∀ s w', SH o Γ w' → R s w') : mcall P n_zf3q [.int .i64 n] .s R w := by
  apply zf3q_call
  have key : ∀ x : Int, zf3q_1 R (wr64 x) w := fun x => by
    have e : wr64 x = ((wr64 x).toNat : Int) := by rw [wr64_eq]; omega
    rw [e]
    exact rvPut1_any (by rw [wr64_eq]; omega) h hR
  exact mif_ok (fun _ => key _) (fun _ => key _)
theorem rvTake_any {R : (Int × Bs × Int × Unit) → World → Prop} {s : Bs} (hl : s.length ≤ 9223372036854775807) (h : SH o Γ w) (hR : ∀ v r e w', I64 v → SH o Γ w' → R (v, r, e, ()) w') : mcall P n_zf2d [.string ⟨s.toArray⟩] (.tup [I, .s, I]) R w := by
  apply zf2d_call
  have two : ∀ (k : Nat) w, k ≤ s.length → k ≤ 10 → SH o Γ w → zf2d_2 R s k w := by
    intro k w hk hk10 h
    unfold zf2d_2
    refine mif_ok (fun _ => hR _ _ _ w ⟨by omega, by omega⟩ h) (fun g => ?_)
    refine mif_ok (fun _ => hR _ _ _ w ⟨by omega, by omega⟩ h) (fun _ => ?_)
    have hlt : k < s.length := by simp at g; omega
    unfold zf2d_3 zf2d_6 zf2d_7
    refine loop_ok (fun (i : Nat) st w => ∃ u, st = (u, (i : Int) - 1, ()) ∧ i ≤ k + 1 ∧ SH o Γ w) (fun i => i) (k + 1) ⟨0, by rw [Int.natCast_add]; congr 2; omega, by omega, h⟩ ?_
    clear h
    rintro i _ w cont ⟨u, rfl, hi, h⟩ hc
    unfold zf2d_8
    dsimp only
    refine mif_ok (fun g => ?_) (fun g => ?_)
    · have hi1 : 1 ≤ i := by simp at g; omega
      have ei : ((i : Int) - 1).toNat = i - 1 := by omega
      refine ixs_ok (b := s[i - 1]) (by omega) (by rw [ei]; exact List.getElem?_eq_getElem (by omega)) ?_
      rw [w64_of (x := (i : Int) - 1 - 1) (by omega) (by omega)]
      exact hc (i - 1) _ w (by omega) ⟨_, by congr 2; omega, by omega, h⟩
    · have five : ∀ n, I64 n → zf2d_5 R s k n w := by
        intro n hn
        unfold zf2d_5
        refine mdraw_ok h fun w h => ?_
        rw [w64_of (by omega) (by omega)]
        refine sls_to (by omega) (by omega) ?_
        refine rvPut_any h fun t w h => ?_
        refine mst_of (kd := .s) (y := s.take ((k : Int) + 1).toNat) (sls_to (P := P) (t := zt4) (by omega) (by omega) ⟨rfl, rfl⟩) ?_
        refine mif_ok (fun _ => hR _ _ _ w ⟨by omega, by omega⟩ h) (fun _ => ?_)
        refine mdraw_ok h fun w h => ?_
        refine sls_from (by omega) (by omega) ?_
        exact hR _ _ _ w hn h
      have hw : ∀ x, I64 (w64 x) := fun x => by rw [w64_eq]; constructor <;> omega
      unfold zf2d_4
      exact mif_ok (fun _ => five _ (hw _)) (fun _ => five _ (hw _))
  unfold zf2d_0 zf2d_1
  refine loop_ok (fun (k : Nat) st w => st = ((k : Int), ()) ∧ k ≤ s.length ∧ k ≤ 10 ∧ SH o Γ w) (fun k => 10 - k) 0 ⟨rfl, by omega, by omega, h⟩ ?_
  clear h
  rintro k _ w cont ⟨rfl, hk, hk10, h⟩ hc
  unfold zf2d_9
  dsimp only
  refine mif_ok (fun g => ?_) (fun g => two k w hk hk10 h)
  refine mif_ok (fun g2 => ?_) (fun _ => two k w hk hk10 h)
  have h1 : k < s.length := by simp at g; omega
  have h2 : k < 10 := by simp at g2; omega
  refine ixs_ok (b := s[k]) (by omega) (by simp) ?_
  refine mif_ok (fun _ => ?_) (fun _ => two k w hk hk10 h)
  rw [w64_of (by omega) (by omega)]
  exact hc (k + 1) _ w (by omega) ⟨rfl, h1, by omega, h⟩
end
end Go.Proofs.YtpjhflboedicpaaGreatDoor
namespace Go.Proofs.YtpjhflboedicpaaGreatDoor
open Go Go.W
set_option maxRecDepth 100000
section
variable {o : Fix} {Γ Δ : List Assn} {w : World}
theorem rin_ok {R : Bool → World → Prop} {n : Int} (hR : R (inB n) w) : mcall P n_zfi [.int .i64 n] .b R w := by
  apply zfi_call
  unfold zfi_0
  refine mif_ok (fun g => ?_) (fun g => ?_)
  · have e : inB n = decide (n ≤ 1099511627776) := by unfold inB; rw [decide_eq_decide]; simp at g; omega
    rwa [e] at hR
  · have e : inB n = false := by unfold inB; rw [decide_eq_false_iff_not]; simp at g; omega
    rwa [e] at hR
theorem rAhead_ok {R : Bool → World → Prop} {a b : zT6} (h : SH o Γ w) (hR : ∀ w', SH o Γ w' → R (aheadB a b) w') : mcall P n_zfl [KV zk6 a, KV zk6 b] .b R w := by
  apply zfl_call
  refine bx_ok h fun x w h => ?_
  refine bx_ok h fun y w h => ?_
  refine ld_fld (a := x) h ?_
  refine ld_fld (a := y) h ?_
  have hR' := hR w h.drop.drop
  unfold aheadB at hR'
  refine mif_ok (fun g => ?_) (fun g => ?_)
  · have g : decide (a.2.1 < b.2.1) = true := g
    rw [g, Bool.true_or] at hR'; exact hR'
  have g : decide (a.2.1 < b.2.1) = false := g
  rw [g, Bool.false_or] at hR'
  refine ld_fld (a := x) h ?_
  refine ld_fld (a := y) h ?_
  refine mif_ok (fun g => ?_) (fun g => ?_)
  · have g : (a.2.1 == b.2.1) = true := g
    rw [g, Bool.true_and] at hR'
    refine ld_fld0 (a := x) h ?_
    refine ld_fld0 (a := y) h ?_
    exact hR'
  · have g : (a.2.1 == b.2.1) = false := g
    rw [g, Bool.false_and] at hR'; exact hR'
theorem rValue_any {R : (Int × Bool × Unit) → World → Prop} {r : Rec} (hl : r.2.2.1.length ≤ 9223372036854775807) (h : SH o Γ w) (hR : ∀ v ok w', I64 v → SH o Γ w' → R (v, ok, ()) w') : mcall P n_zf10 [KV zk2 r] (.tup [I, .b]) R w := by
  apply zf10_call
  refine bx_ok h fun x w h => ?_
  refine ld_fld (a := x) h ?_
  refine rvTake_any hl h fun v rest e w hv h => ?_
  exact mif_ok (fun _ => hR _ _ w hv h.drop) (fun _ => hR _ _ w hv h.drop)
theorem reMay_ok {R : Bool → World → Prop} {g : zT0} {N mk lt bd n : Int} {L : Sl} {xs : List zT6} (hs : StOk g N mk lt bd n xs) (h : SH o Γ w) [hr : RdS L zk6 xs Γ] (hR : ∀ w', SH o Γ w' → R true w') :
    mcall P n_zf2 [KV zk0 g, KV zk1 (mk, lt, bd, n, L, ())] .b R w := by
  obtain ⟨c1, c2, c3, c4⟩ := hs.cnt
  obtain ⟨m1, m2⟩ := hs.mrk
  have hN := hs.Nb
  have yes : ∀ x : Int, 0 ≤ x → x ≤ 1099511627776 → inB x = true := fun x h1 h2 => by unfold inB; rw [decide_eq_true_iff]; exact ⟨h1, h2⟩
  apply zf2_call
  refine bx_ok h fun a w h => ?_
  refine bx_ok h fun b w h => ?_
  have h : SH o (vr b zt9 zk1 (mk, lt, bd, n, L, ()) :: vr a zt5 zk0 g :: Γ) w := h
  refine ld_var (a := a) h ?_
  refine rgMay_ok h fun w h => ?_
  rw [hs.gk]
  refine mif_ok (fun q => by cases q) (fun _ => ?_)
  have hlen := h.len (s := L)
  have hl64 := hs.len
  have body : ∀ w, SH o (vr b zt9 zk1 (mk, lt, bd, n, L, ()) :: vr a zt5 zk0 g :: Γ) w → zf2_1 R a b w := by
    intro w h
    unfold zf2_1 zf2_3 zf2_4
    refine loop_ok (fun (i : Nat) st w => st = ((i : Int), ()) ∧ i ≤ xs.length ∧ SH o (vr b zt9 zk1 (mk, lt, bd, n, L, ()) :: vr a zt5 zk0 g :: Γ) w) (fun i => xs.length - i) 0 ⟨rfl, by omega, h⟩ ?_
    clear h
    rintro i _ w cont ⟨rfl, hi, h⟩ hc
    unfold zf2_5
    dsimp only
    refine ld_fld (a := b) h ?_
    refine mif_ok (fun q => ?_) (fun q => ?_)
    · have hlt : i < xs.length := by simp at q; omega
      obtain ⟨⟨q1, q2, q3, q4, q5, q6⟩, hag, hcn⟩ := hs.cell _ (List.getElem_mem hlt)
      have hop := hs.opn _ (List.getElem_mem hlt)
      have hg := gok hs.gk
      refine ld_fld (a := b) h ?_
      refine ixa_ok (s := L) h (by omega) (by omega) fun e ea => ?_
      refine ld_el ea h (List.getElem?_eq_getElem hlt) ?_
      refine alo_ok h fun c w h => ?_
      refine sto_var (a := c) h fun w h => ?_
      refine ld_fld0 (a := c) h ?_
      refine rin_ok ?_
      refine mif_ok (fun q => by rw [yes _ q1 (by omega)] at q; cases q) (fun _ => ?_)
      refine ld_fld0 (a := c) h ?_
      refine mif_ok (fun q => by simp at q; omega) (fun _ => ?_)
      refine ld_fld (a := c) h ?_
      refine rin_ok ?_
      refine mif_ok (fun q => by rw [yes _ q3 (by omega)] at q; cases q) (fun _ => ?_)
      refine ld_fld (a := c) h ?_
      refine ld_fld (a := a) h ?_
      refine mdz_ok (by omega) ?_
      refine mif_ok (fun q => ?_) (fun _ => ?_)
      · rw [Int.tmod_eq_emod_of_nonneg q3, q5] at q; simp at q
      refine ld_fld (a := c) h ?_
      refine ld_fld0 (a := b) h ?_
      refine mif_ok (fun q => by simp at q; omega) (fun _ => ?_)
      refine ld_var (a := a) h ?_
      refine ld_fld (a := c) h ?_
      refine ld_fld0 (a := b) h ?_
      refine rgClosed_ok hs.gk m2 h fun w h => ?_
      refine mif_ok (fun q => by rw [hop] at q; cases q) (fun _ => ?_)
      refine ld_fld (a := c) (k' := zk5) h ?_
      refine rMay_ok hag h fun w h => ?_
      refine mif_ok (fun q => by cases q) (fun _ => ?_)
      refine mdraw_ok h fun w h => ?_
      have fin : ∀ w, SH o (vr c zth zk6 xs[i] :: vr b zt9 zk1 (mk, lt, bd, n, L, ()) :: vr a zt5 zk0 g :: Γ) w → zf2_6 cont R a b i w := by
        intro w h
        unfold zf2_6
        rw [w64_of (by omega) (by omega)]
        exact hc (i + 1) _ w (by omega) ⟨rfl, hlt, h.to⟩
      refine mif_ok (fun q => ?_) (fun q => fin w h)
      have hi0 : 0 < i := by simp at q; omega
      refine ld_fld (a := b) h ?_
      dsimp only
      rw [w64_of (x := (i : Int) - 1) (by omega) (by omega)]
      have hlt1 : i - 1 < xs.length := by omega
      have ei : ((i : Int) - 1).toNat = i - 1 := by omega
      refine ixa_ok (s := L) h (by omega) (by omega) fun e1 ea1 => ?_
      rw [ei] at ea1
      refine ld_el ea1 h (List.getElem?_eq_getElem hlt1) ?_
      refine ld_var (a := c) h ?_
      refine rAhead_ok h fun w h => ?_
      have hord : aheadB xs[i - 1] xs[i] = true := List.pairwise_iff_getElem.1 hs.srt (i - 1) i hlt1 hlt (by omega)
      refine mif_ok (fun q => ?_) (fun q => fin w h)
      have q : (!aheadB xs[i - 1] xs[i]) = true := q
      rw [hord] at q; cases q
    · unfold zf2_2
      exact hR w h.drop.drop
  refine ld_fld0 (a := b) h ?_
  refine mif_ok (fun q => ?_) (fun _ => ?_)
  · refine ld_fld0 (a := b) h ?_
    refine rin_ok ?_
    refine mif_ok (fun q2 => by have : mk ≠ -1 := by simpa using q
                                rw [yes _ (by dsimp only; omega) (by dsimp only; omega)] at q2; cases q2) (fun _ => ?_)
    refine ld_fld (a := b) h ?_
    refine rin_ok ?_
    refine mif_ok (fun q => by rw [yes _ (by dsimp only; omega) (by dsimp only; omega)] at q; cases q) (fun _ => ?_)
    refine ld_fld (a := b) h ?_
    refine rin_ok ?_
    refine mif_ok (fun q => by rw [yes _ (by dsimp only; omega) (by dsimp only; omega)] at q; cases q) (fun _ => ?_)
    refine ld_fld (a := b) h ?_
    refine rin_ok ?_
    refine mif_ok (fun q => by rw [yes _ (by dsimp only; omega) (by dsimp only; omega)] at q; cases q) (fun _ => ?_)
    refine ld_fld (a := b) h ?_
    refine ld_fld (a := b) h ?_
    refine ld_fld (a := b) h ?_
    dsimp only
    rw [w64_of (x := lt + bd) (by omega) (by omega)]
    refine mif_ok (fun q => by simp at q; omega) (fun _ => ?_)
    refine ld_fld (a := b) h ?_
    refine mif_ok (fun q => by simp at q; omega) (fun _ => body w h)
  · refine ld_fld (a := b) h ?_
    refine rin_ok ?_
    refine mif_ok (fun q => by rw [yes _ (by dsimp only; omega) (by dsimp only; omega)] at q; cases q) (fun _ => ?_)
    refine ld_fld (a := b) h ?_
    refine rin_ok ?_
    refine mif_ok (fun q => by rw [yes _ (by dsimp only; omega) (by dsimp only; omega)] at q; cases q) (fun _ => ?_)
    refine ld_fld (a := b) h ?_
    refine rin_ok ?_
    refine mif_ok (fun q => by rw [yes _ (by dsimp only; omega) (by dsimp only; omega)] at q; cases q) (fun _ => ?_)
    refine ld_fld (a := b) h ?_
    refine ld_fld (a := b) h ?_
    refine ld_fld (a := b) h ?_
    dsimp only
    rw [w64_of (x := lt + bd) (by omega) (by omega)]
    refine mif_ok (fun q => by simp at q; omega) (fun _ => ?_)
    refine ld_fld (a := b) h ?_
    refine mif_ok (fun q => by simp at q; omega) (fun _ => body w h)
theorem reMay_zero {R : Bool → World → Prop} {g : zT0} (h : SH o Γ w) (hR : ∀ w', SH o Γ w' → R (gokB g) w') : mcall P n_zf2 [KV zk0 g, KV zk1 (-1, 0, 0, 0, ⟨none, 0, 0⟩, ())] .b R w := by
  cases hg : gokB g with
  | true =>
    rw [hg] at hR
    have h := h.nilS zth zk6
    exact reMay_ok (StOk.zero hg) h fun w h => hR w h.drop
  | false =>
    apply zf2_call
    refine bx_ok h fun a w h => ?_
    refine bx_ok h fun b w h => ?_
    refine ld_var (a := a) h ?_
    refine rgMay_ok h fun w h => ?_
    rw [hg] at hR ⊢
    exact mif_ok (fun _ => hR w h.drop.drop) (fun q => by cases q)
theorem rput_any {R : Sl → World → Prop} {l : Sl} {ls : List zT6} {key st v : Int} (hv : I64 v) (hl : ls.length ≤ 1073741824) (h : SH o Γ w) [hr : RdS l zk6 ls Γ] (hR : ∀ l' ls' w', ls'.length ≤ ls.length + 1 → SH o (slO l' zth zk6 ls' :: Γ) w' → R l' w') :
    mcall P n_zf12 [Sl.v l, .int .i64 key, .int .i64 st, .int .i64 v] .sl R w := by
  apply zf12_call
  have hlen := h.len (s := l)
  refine alo_ok h fun x w h => ?_
  refine sto_var (a := x) h fun w h => ?_
  have three : ∀ (out : Sl) (os : List zT6) (i : Nat) y w, os.length ≤ i → i ≤ ls.length → SH o (slO out zth zk6 os :: vr x zth zk6 y :: Γ) w → zf12_3 R l v x out i w := by
    intro out os i y w h1 h2 h
    unfold zf12_3
    refine ld_fld (a := x) (k' := zk5) h ?_
    refine rAdd_any hv h fun a' w h => ?_
    refine sto_fld (a := x) (k' := zk5) h fun w h => ?_
    refine ld_var (a := x) h ?_
    refine bsl_ok h fun u w h => ?_
    refine app_ok h (by simp; omega) (fun y _ => okV_plain rfl y) fun o2 w h => ?_
    have hcap := (h.rd (s := l)).2.1
    refine slc_ok (k := zk6) (by simp) (by simp; omega) (by simp; omega) ?_
    simp only [Option.getD_some, Option.getD_none, Int.toNat_natCast]
    haveI : RdS (cut l zk6 i l.len) zk6 ((ls.drop i).take (l.len - i)) Γ := RdS.cut inferInstance (by omega) (by omega)
    refine app_ok (s := o2) (u := cut l zk6 i l.len) h (by simp; omega) (fun y _ => okV_plain rfl y) fun o3 w h => ?_
    refine hR o3 _ w ?_ h.swap.drop.swap.drop
    simp; omega
  unfold zf12_1
  have h := h.nilS zth zk6
  refine loop_ok (fun (i : Nat) s w => ∃ out os y, s = (out, (i : Int), ()) ∧ os.length = i ∧ i ≤ ls.length ∧ SH o (slO out zth zk6 os :: vr x zth zk6 y :: Γ) w) (fun i => ls.length - i) 0 ⟨_, [], _, rfl, rfl, by omega, h⟩ ?_
  clear h
  rintro i _ w cont ⟨out, os, y, rfl, ho, hi, h⟩ hc
  have two : ∀ w, SH o (slO out zth zk6 os :: vr x zth zk6 y :: Γ) w → zf12_2 R l v x out i w := by
    intro w h
    unfold zf12_2
    refine mdraw_ok h fun w h => ?_
    refine mif_ok (fun g => ?_) (fun _ => three out os i y w (by omega) hi h)
    have hlt : i < ls.length := by simp at g; omega
    refine ld_var (a := x) h ?_
    refine ixa_ok (s := l) h (by omega) (by omega) fun e ea => ?_
    refine ld_el ea h (List.getElem?_eq_getElem hlt) ?_
    refine rAhead_ok h fun w h => ?_
    refine mif_ok (fun g => ?_) (fun _ => three out os i y w (by omega) hi h)
    refine ixa_ok (s := l) h (by omega) (by omega) fun e ea => ?_
    refine ld_el ea h (List.getElem?_eq_getElem hlt) ?_
    refine sto_var (a := x) h fun w h => ?_
    rw [w64_of (by omega) (by omega)]
    exact three out os (i + 1) _ w (by omega) (by omega) h.swap
  unfold zf12_4
  dsimp only
  refine mdraw_ok h fun w h => ?_
  refine mif_ok (fun g => ?_) (fun _ => two w h)
  have hlt : i < ls.length := by simp at g; omega
  refine ixa_ok (s := l) h (by omega) (by omega) fun e ea => ?_
  refine ld_el ea h (List.getElem?_eq_getElem hlt) ?_
  refine ld_var (a := x) h ?_
  refine rAhead_ok h fun w h => ?_
  refine mif_ok (fun g => ?_) (fun _ => two w h)
  refine ixa_ok (s := l) h (by omega) (by omega) fun e ea => ?_
  refine ld_el ea h (List.getElem?_eq_getElem hlt) ?_
  refine bsl_ok h fun u w h => ?_
  refine app_ok h (by simp; omega) (fun y _ => okV_plain rfl y) fun o2 w h => ?_
  rw [w64_of (by omega) (by omega)]
  exact hc (i + 1) _ w (by omega) ⟨o2, os ++ [ls[i]], y, rfl, by simp; omega, by omega, h.swap.drop⟩
end
end Go.Proofs.YtpjhflboedicpaaGreatDoor
namespace Go.Proofs.YtpjhflboedicpaaGreatDoor
open Go Go.W
set_option maxRecDepth 100000
section
variable {o : Fix} {Γ Δ : List Assn} {w : World}
theorem rFeed_any {R : (zT1 × Sl × Int × Unit) → World → Prop} {g : zT0} {N mk lt bd n : Int} {L : Sl} {xs : List zT6} {r : Rec} (hs : StOk g N mk lt bd n xs) (hl : r.2.2.1.length ≤ 9223372036854775807) (h : SH o Γ w) [hr : RdS L zk6 xs Γ]
    (hE : recIn r = false → ∀ s V w', SH o Γ w' → R (s, V, 1, ()) w')
    (hR : recIn r = true → ∀ s V w', SH o Γ w' → R (s, V, 0, ()) w') :
    mcall P n_zf6 [KV zk0 g, KV zk1 (mk, lt, bd, n, L, ()), KV zk2 r] (.tup [zk1, .sl, I]) R w := by
  obtain ⟨c1, c2, c3, c4⟩ := hs.cnt
  obtain ⟨m1, m2⟩ := hs.mrk
  have hl64 := hs.len
  have hNN := hs.Nb
  apply zf6_call
  refine bx_ok h fun a1 w h => ?_
  refine bx_ok h fun a2 w h => ?_
  refine bx_ok h fun a3 w h => ?_
  refine alo_ok h fun a4 w h => ?_
  have h : SH o (vr a2 zt9 zk1 (mk, lt, bd, n, L, ()) :: vr a4 zt9 zk1 (0, 0, 0, 0, ⟨none, 0, 0⟩, ()) :: vr a1 zt5 zk0 g :: vr a3 ztc zk2 r :: Γ) w := h.to
  refine ld_var (a := a1) h ?_
  refine ld_var (a := a2) h ?_
  refine reMay_ok hs h fun w h => ?_
  refine mif_ok (fun q => by cases q) (fun _ => ?_)
  have out : ∀ w, recIn r = false → SH o (vr a2 zt9 zk1 (mk, lt, bd, n, L, ()) :: vr a4 zt9 zk1 (0, 0, 0, 0, ⟨none, 0, 0⟩, ()) :: vr a1 zt5 zk0 g :: vr a3 ztc zk2 r :: Γ) w →
      (sto P zt9 a4 zk1 (0, 0, 0, 0, ⟨none, 0, 0⟩, ()) <| ld P zt9 a4 zk1 fun (x8 : zT1) => R (x8, ⟨none, 0, 0⟩, 1, ())) w := by
    intro w hf h
    refine sto_var (a := a4) h fun w h => ?_
    refine ld_var (a := a4) h ?_
    exact hE hf _ _ w h.to
  refine ld_fld0 (a := a3) h ?_
  refine rin_ok ?_
  refine mif_ok (fun q => ?_) (fun q1 => ?_)
  · refine out w ?_ h
    have q : inB r.1 = false := (Bool.not_eq_true' _).mp q
    unfold recIn; rw [q]; rfl
  have q1 : inB r.1 = true := by simpa using q1
  refine ld_fld0 (a := a3) h ?_
  refine mif_ok (fun q => ?_) (fun q2 => ?_)
  · refine out w ?_ h
    have q : r.1 > 1048576 := by simpa using q
    have e : decide (r.1 ≤ 1048576) = false := by rw [decide_eq_false_iff_not]; omega
    unfold recIn; rw [e, Bool.and_false]
  have hk : r.1 ≤ 1048576 := by simp at q2; omega
  refine ld_fld (a := a3) h ?_
  refine rin_ok ?_
  refine mif_ok (fun q => ?_) (fun q3 => ?_)
  · refine out w ?_ h
    have q : inB r.2.1 = false := (Bool.not_eq_true' _).mp q
    unfold recIn; rw [q]; simp
  have q3 : inB r.2.1 = true := by simpa using q3
  have hrec : recIn r = true := by unfold recIn; rw [q1, q3, Bool.true_and, Bool.true_and, decide_eq_true_iff]; exact hk
  obtain ⟨k0, t0, t1⟩ : 0 ≤ r.1 ∧ 0 ≤ r.2.1 ∧ r.2.1 ≤ 1099511627776 := by simp [inB] at q1 q3; omega
  refine ld_fld (a := a2) h ?_
  refine mif_ok (fun q => by simp at q; omega) (fun _ => ?_)
  refine ld_fld (a := a2) h ?_
  refine sto_fld (a := a2) h fun w h => ?_
  rw [w64_of (by dsimp only; omega) (by dsimp only; omega)] at h
  have h : SH o (vr a2 zt9 zk1 (mk, lt, bd, n + 1, L, ()) :: vr a4 zt9 zk1 (0, 0, 0, 0, ⟨none, 0, 0⟩, ()) :: vr a1 zt5 zk0 g :: vr a3 ztc zk2 r :: Γ) w := h.to
  refine ld_var (a := a3) h ?_
  refine rValue_any (r := r) hl h fun v ok w hv h => ?_
  refine mif_ok (fun q => ?_) (fun q => ?_)
  · refine ld_fld (a := a2) h ?_
    refine sto_fld (a := a2) h fun w h => ?_
    refine ld_var (a := a2) h ?_
    refine sto_var (a := a4) h fun w h => ?_
    refine ld_var (a := a4) h ?_
    exact hR hrec _ _ w h.to
  refine ld_var (a := a1) h ?_
  refine ld_fld (a := a3) h ?_
  refine rgStarts_any hs.gk ⟨t0, t1⟩ h fun st sts w hst h => ?_
  refine ld_fld (a := a2) h ?_
  have hstl := h.len (s := st)
  have h : SH o (vr a2 zt9 zk1 (mk, lt, bd, n + 1, L, ()) :: vr a4 zt9 zk1 (0, 0, 0, 0, ⟨none, 0, 0⟩, ()) :: slO st zt1 I sts :: vr a1 zt5 zk0 g :: vr a3 ztc zk2 r :: Γ) w := h.to
  dsimp only
  have four : ∀ (m lt' : Int) (l : Sl) (ls : List zT6) (A : Assn) w, m ≤ 1099511627776 → ls.length ≤ 1073741824 →
      RdS l zk6 ls (A :: vr a2 zt9 zk1 (m, lt', bd, n + 1, L, ()) :: vr a4 zt9 zk1 (0, 0, 0, 0, ⟨none, 0, 0⟩, ()) :: slO st zt1 I sts :: vr a1 zt5 zk0 g :: vr a3 ztc zk2 r :: Γ) →
      SH o (A :: vr a2 zt9 zk1 (m, lt', bd, n + 1, L, ()) :: vr a4 zt9 zk1 (0, 0, 0, 0, ⟨none, 0, 0⟩, ()) :: slO st zt1 I sts :: vr a1 zt5 zk0 g :: vr a3 ztc zk2 r :: Γ) w → zf6_4 R a1 a2 a4 l w := by
    intro m lt' l ls A w hm hll hrd h
    unfold zf6_4 zf6_5 zf6_7 zf6_8
    have hlen := h.len (s := l)
    have h := (h.nilS zth zk6).nilS zth zk6
    refine loop_ok (fun (i : Nat) s w => ∃ op os ov vs, s = (op, ov, (i : Int), ()) ∧ i ≤ ls.length ∧ os.length ≤ i ∧ vs.length ≤ i ∧
      SH o (slO op zth zk6 os :: slO ov zth zk6 vs :: A :: vr a2 zt9 zk1 (m, lt', bd, n + 1, L, ()) :: vr a4 zt9 zk1 (0, 0, 0, 0, ⟨none, 0, 0⟩, ()) :: slO st zt1 I sts :: vr a1 zt5 zk0 g :: vr a3 ztc zk2 r :: Γ) w)
      (fun i => ls.length - i) 0 ⟨_, [], _, [], rfl, by omega, by simp, by simp, h⟩ ?_
    clear h
    rintro i _ w cont ⟨op, os, ov, vs, rfl, hi, ho, hv, h⟩ hc
    unfold zf6_9
    dsimp only
    refine mif_ok (fun q => ?_) (fun q => ?_)
    · have hlt : i < ls.length := by simp at q; omega
      refine mdraw_ok h fun w h => ?_
      refine ld_var (a := a1) h ?_
      refine ixa_ok (s := l) h (by omega) (by omega) fun e ea => ?_
      refine ld_elf (n := 1) ea h (List.getElem?_eq_getElem hlt) ?_
      refine ld_fld0 (a := a2) h ?_
      refine rgClosed_ok hs.gk hm h fun w h => ?_
      refine mif_ok (fun q => ?_) (fun q => ?_)
      · refine ixa_ok (s := l) h (by omega) (by omega) fun e ea => ?_
        refine ld_el ea h (List.getElem?_eq_getElem hlt) ?_
        refine bsl_ok h fun u w h => ?_
        refine app_ok (s := ov) h (by simp; omega) (fun y _ => okV_plain rfl y) fun o2 w h => ?_
        unfold zf6_10
        rw [w64_of (by omega) (by omega)]
        exact hc (i + 1) _ w (by omega) ⟨op, os, o2, vs ++ [ls[i]], rfl, by omega, by omega, by simp; omega, h.to⟩
      · refine ixa_ok (s := l) h (by omega) (by omega) fun e ea => ?_
        refine ld_el ea h (List.getElem?_eq_getElem hlt) ?_
        refine bsl_ok h fun u w h => ?_
        refine app_ok (s := op) h (by simp; omega) (fun y _ => okV_plain rfl y) fun o2 w h => ?_
        unfold zf6_10
        rw [w64_of (by omega) (by omega)]
        exact hc (i + 1) _ w (by omega) ⟨o2, os ++ [ls[i]], ov, vs, rfl, by omega, by simp; omega, by omega, h.to⟩
    · unfold zf6_6
      refine sto_fld (a := a2) h fun w h => ?_
      refine ld_var (a := a2) h ?_
      refine sto_var (a := a4) h fun w h => ?_
      refine ld_var (a := a4) h ?_
      exact hR hrec _ _ w h.to
  have three : ∀ (lt' : Int) (l : Sl) (ls : List zT6) (A : Assn) w, ls.length ≤ 1073741824 →
      (∀ m, RdS l zk6 ls (A :: vr a2 zt9 zk1 (m, lt', bd, n + 1, L, ()) :: vr a4 zt9 zk1 (0, 0, 0, 0, ⟨none, 0, 0⟩, ()) :: slO st zt1 I sts :: vr a1 zt5 zk0 g :: vr a3 ztc zk2 r :: Γ)) →
      SH o (A :: vr a2 zt9 zk1 (mk, lt', bd, n + 1, L, ()) :: vr a4 zt9 zk1 (0, 0, 0, 0, ⟨none, 0, 0⟩, ()) :: slO st zt1 I sts :: vr a1 zt5 zk0 g :: vr a3 ztc zk2 r :: Γ) w → zf6_3 R a1 a2 a3 a4 l w := by
    intro lt' l ls A w hll hrd h
    unfold zf6_3
    refine ld_fld (a := a3) h ?_
    refine ld_fld0 (a := a2) h ?_
    refine mif_ok (fun q => ?_) (fun q => ?_)
    · refine ld_fld (a := a3) h ?_
      refine sto_fld0 (a := a2) h fun w h => ?_
      exact four r.2.1 lt' l ls A w t1 hll (hrd _) h.to
    · exact four mk lt' l ls A w m2 hll (hrd _) h
  unfold zf6_1 zf6_11 zf6_12
  refine loop_ok (fun (i : Nat) s w => ∃ l ls nn A, s = (l, nn, (i : Int), ()) ∧ i ≤ sts.length ∧ 0 ≤ nn ∧ nn ≤ i ∧ ls.length ≤ 64 + i ∧
      (∀ m lt', RdS l zk6 ls (A :: vr a2 zt9 zk1 (m, lt', bd, n + 1, L, ()) :: vr a4 zt9 zk1 (0, 0, 0, 0, ⟨none, 0, 0⟩, ()) :: slO st zt1 I sts :: vr a1 zt5 zk0 g :: vr a3 ztc zk2 r :: Γ)) ∧
      SH o (A :: vr a2 zt9 zk1 (mk, lt, bd, n + 1, L, ()) :: vr a4 zt9 zk1 (0, 0, 0, 0, ⟨none, 0, 0⟩, ()) :: slO st zt1 I sts :: vr a1 zt5 zk0 g :: vr a3 ztc zk2 r :: Γ) w)
    (fun i => sts.length - i) 0 ⟨L, xs, 0, pureA True, rfl, by omega, by omega, by omega, by omega, fun m lt' => inferInstance, SH.pure.2 ⟨trivial, h⟩⟩ ?_
  clear h
  rintro i _ w cont ⟨l, ls, nn, A, rfl, hi, n0, n1, hll, hrd, h⟩ hc
  haveI := hrd mk lt
  unfold zf6_13
  dsimp only
  refine mif_ok (fun q => ?_) (fun q => ?_)
  · have hlt : i < sts.length := by simp at q; omega
    refine mdraw_ok h fun w h => ?_
    refine ld_var (a := a1) h ?_
    refine ixa_ok (s := st) h (by omega) (by omega) fun e ea => ?_
    refine ld_el ea h (List.getElem?_eq_getElem hlt) ?_
    refine ld_fld0 (a := a2) h ?_
    refine rgClosed_ok hs.gk m2 h fun w h => ?_
    refine mif_ok (fun q => ?_) (fun q => ?_)
    · refine mdraw_ok h fun w h => ?_
      refine ld_fld0 (a := a3) h ?_
      refine ixa_ok (s := st) h (by omega) (by omega) fun e ea => ?_
      refine ld_el ea h (List.getElem?_eq_getElem hlt) ?_
      refine rput_any hv (by omega) h fun l2 ls2 w hl2 h => ?_
      unfold zf6_14
      rw [w64_of (by omega) (by omega), w64_of (by omega) (by omega)]
      exact hc (i + 1) _ w (by omega) ⟨l2, ls2, nn + 1, _, rfl, by omega, by omega, by omega, by omega, fun m lt' => RdS.here, h.swap.drop⟩
    · unfold zf6_14
      rw [w64_of (by omega) (by omega)]
      exact hc (i + 1) _ w (by omega) ⟨l, ls, nn, A, rfl, by omega, by omega, by omega, by omega, hrd, h⟩
  · unfold zf6_2
    refine mif_ok (fun q => ?_) (fun q => ?_)
    · refine ld_fld (a := a2) h ?_
      refine sto_fld (a := a2) h fun w h => ?_
      refine ld_fld (a := a2) h ?_
      exact three (w64 (lt + 1)) L xs A w (by omega) (fun m => inferInstance) h.to
    · refine mif_ok (fun q => ?_) (fun q => ?_)
      · refine ld_fld (a := a2) h ?_
        refine sto_fld (a := a2) h fun w h => ?_
        refine ld_fld (a := a2) h ?_
        exact three (w64 (lt + 1)) L xs A w (by omega) (fun m => inferInstance) h.to
      · exact three lt l ls A w (by omega) (fun m => hrd m lt) h
end
end Go.Proofs.YtpjhflboedicpaaGreatDoor
namespace Go.Proofs.YtpjhflboedicpaaGreatDoor
open Go Go.W
set_option maxRecDepth 100000
instance : TyEq P zth zk6 := ⟨by kernel_rfl⟩
instance : TyEq P ztc zk2 := ⟨by kernel_rfl⟩
def chRec : Ch → Rec
  | .cnt m l b n => (0, 0, putAll [0, m, l, b, n], ())
  | .here c => (c.1, c.2.1, vput 1 ++ putAll (agL c.2.2.1), ())
  | .gone c => (c.1, c.2.1, vput 2, ())
noncomputable def diffS (m l b n m' l' b' n' : Int) (xs ys : List Cl) : List Ch := (if m = m' ∧ l = l' ∧ b = b' ∧ n = n' then [] else [.cnt m' l' b' n']) ++ diffC xs ys
section
variable {o : Fix} {Γ Δ : List Assn} {w : World}
theorem told_here {R : Rec → World → Prop} {c : zT6} (hc : OkAg c.2.2.1) (h : SH o Γ w) (hR : ∀ w', SH o Γ w' → R (chRec (.here c)) w') : mcall P n_zf15 [KV zk6 c, .int .i64 1] zk2 R w := by
  apply zf15_call
  refine bx_ok h fun a w h => ?_
  refine alo_ok h fun b w h => ?_
  refine Put_ok ⟨by omega, by omega⟩ h fun w h => ?_
  refine mif_ok (fun _ => ?_) (fun q => by cases q)
  refine ld_fld (a := a) (k' := zk5) h ?_
  refine fEncode_ok hc h fun w h => ?_
  have hl := putAll_len (agL_i64 hc)
  have hl1 := vput_len (n := 1) ⟨by omega, by omega⟩
  have hl10 : (agL c.2.2.1).length = 10 := rfl
  refine mcat_ok (by dsimp only; omega) ?_
  unfold zf15_1
  refine ld_fld0 (a := a) h ?_
  refine ld_fld (a := a) h ?_
  refine sto_var (a := b) h fun w h => ?_
  refine ld_var (a := b) h ?_
  exact hR w h.to
theorem told_gone {R : Rec → World → Prop} {c : zT6} (h : SH o Γ w) (hR : ∀ w', SH o Γ w' → R (chRec (.gone c)) w') : mcall P n_zf15 [KV zk6 c, .int .i64 2] zk2 R w := by
  apply zf15_call
  refine bx_ok h fun a w h => ?_
  refine alo_ok h fun b w h => ?_
  refine Put_ok ⟨by omega, by omega⟩ h fun w h => ?_
  refine mif_ok (fun q => by cases q) (fun _ => ?_)
  unfold zf15_1
  refine ld_fld0 (a := a) h ?_
  refine ld_fld (a := a) h ?_
  refine sto_var (a := b) h fun w h => ?_
  refine ld_var (a := b) h ?_
  exact hR w h.to
theorem slc_tail {s : Sl} {x : zT6} {xs : List zT6} {K : Sl → World → Prop} [hr : RdS s zk6 (x :: xs) Γ] (h : SH o Γ w) (hK : RdS (cut s zk6 1 s.len) zk6 xs Γ → K (cut s zk6 1 s.len) w) : slc P zt8 s (some 1) none K w := by
  obtain ⟨h1, h2, _⟩ := h.rd (s := s)
  simp only [List.length_cons] at h1
  refine slc_ok (k := zk6) (by simp) (by simp; omega) (by simp; omega) ?_
  refine hK ?_
  have := RdS.cut (l := 1) (m := s.len) hr (by omega) (by simp; omega)
  rwa [List.drop_one, List.tail_cons, List.take_of_length_le (by omega)] at this
theorem Diff_ok {R : Sl → World → Prop} {m l b n m' l' b' n' : Int} {L L' : Sl} {xs ys : List zT6} (hm : I64 m') (hl : I64 l') (hb : I64 b') (hn : I64 n') (hx : xs.length ≤ 1000) (hy : ys.length ≤ 1000) (hc : ∀ c ∈ ys, OkAg c.2.2.1)
    (h : SH o Γ w) [hr : RdS L zk6 xs Γ] [hr' : RdS L' zk6 ys Γ] (hR : ∀ r w', SH o (slO r ztc zk2 ((diffS m l b n m' l' b' n' xs ys).map chRec) :: Γ) w' → R r w') :
    mcall P n_zf7 [KV zk1 (m, l, b, n, L, ()), KV zk1 (m', l', b', n', L', ())] .sl R w := by
  apply zf7_call
  refine bx_ok h fun a1 w h => ?_
  refine bx_ok h fun a2 w h => ?_
  unfold zf7_1 zf7_2
  have rest : ∀ (hd : List Ch) l0 w, hd = (if m = m' ∧ l = l' ∧ b = b' ∧ n = n' then [] else [.cnt m' l' b' n']) → hd.length ≤ 1 →
      SH o (slO l0 ztc zk2 (hd.map chRec) :: vr a2 zt9 zk1 (m', l', b', n', L', ()) :: vr a1 zt9 zk1 (m, l, b, n, L, ()) :: Γ) w → zf7_3 R a1 a2 l0 w := by
    intro hd l0 w hhd hhl h
    unfold zf7_3
    refine mdraw_ok h fun w h => ?_
    refine ld_fld (a := a1) h ?_
    refine ld_fld (a := a2) h ?_
    have h : SH o (slO l0 ztc zk2 (hd.map chRec) :: Γ) w := h.to
    unfold zf7_4
    refine loop_ok (fun (q : List Ch × List Cl × List Cl) st w => ∃ r a b, st = (r, a, b, ()) ∧ diffC xs ys = q.1 ++ diffC q.2.1 q.2.2 ∧ q.1.length + q.2.1.length + q.2.2.length ≤ xs.length + ys.length ∧ (∀ c ∈ q.2.2, OkAg c.2.2.1) ∧
      RdS a zk6 q.2.1 Γ ∧ RdS b zk6 q.2.2 Γ ∧ SH o (slO r ztc zk2 ((hd ++ q.1).map chRec) :: Γ) w) (fun q => q.2.1.length + q.2.2.length) ([], xs, ys)
      ⟨l0, L, L', rfl, by simp, by simp, hc, hr, hr', by simpa using h⟩ ?_
    clear h
    rintro ⟨ds, ps, qs⟩ _ w cont ⟨r, a, b, rfl, hd1, hlen, hok, ra, rb, h⟩ hcont
    simp only at hd1 hlen hok ra rb h hcont
    have la : a.len = ps.length := (h.drop).len (s := a)
    have lb : b.len = qs.length := (h.drop).len (s := b)
    unfold zf7_6
    dsimp only
    have goA : ∀ w x ps', ps = x :: ps' → diffC ps qs = .gone x :: diffC ps' qs → SH o (slO r ztc zk2 ((hd ++ ds).map chRec) :: Γ) w →
        (ixa P zt8 (Sl.v a) 0 fun (x29 : Addr) => ld P zth x29 zk6 fun (x30 : zT6) => mcall P n_zf15 [(KV zk6 x30), (.int .i64 2)] zk2 fun (x31 : zT2) =>
          bsl P zt6 zk2 [x31] fun x32 => app P #[zt6, zt6] zt6 (Sl.v r) (Sl.v x32) fun (x33 : Sl) => slc P zt8 a (some 1) none fun (x34 : Sl) => cont (x33, x34, b, ()) (())) w := by
      rintro w x ps' rfl hdf h
      simp only [List.length_cons] at la hlen
      refine ixa_ok (s := a) h (by omega) (by omega) fun e ea => ?_
      refine ld_el ea h rfl ?_
      refine told_gone h fun w h => ?_
      refine bsl_ok h fun u w h => ?_
      refine app_ok h (by simp; omega) (fun y _ => okV_plain rfl y) fun r2 w h => ?_
      refine slc_tail (x := x) (xs := ps') (Γ := Γ) h.drop.drop fun ra' => ?_
      refine hcont (ds ++ [.gone x], ps', qs) _ w (by simp) ⟨r2, _, b, rfl, by rw [hd1, hdf]; simp, by simp; omega, hok, ra', rb, ?_⟩
      have h := h.swap.drop
      simpa using h
    have goB : ∀ w y qs', qs = y :: qs' → diffC ps qs = .here y :: diffC ps qs' → SH o (slO r ztc zk2 ((hd ++ ds).map chRec) :: Γ) w →
        (ixa P zt8 (Sl.v b) 0 fun (x46 : Addr) => ld P zth x46 zk6 fun (x47 : zT6) => mcall P n_zf15 [(KV zk6 x47), (.int .i64 1)] zk2 fun (x48 : zT2) =>
          bsl P zt6 zk2 [x48] fun x49 => app P #[zt6, zt6] zt6 (Sl.v r) (Sl.v x49) fun (x50 : Sl) => slc P zt8 b (some 1) none fun (x51 : Sl) => cont (x50, a, x51, ()) (())) w := by
      rintro w y qs' rfl hdf h
      simp only [List.length_cons] at lb hlen
      refine ixa_ok (s := b) h (by omega) (by omega) fun e ea => ?_
      refine ld_el ea h rfl ?_
      refine told_here (hok y (List.mem_cons_self ..)) h fun w h => ?_
      refine bsl_ok h fun u w h => ?_
      refine app_ok h (by simp; omega) (fun y _ => okV_plain rfl y) fun r2 w h => ?_
      refine slc_tail (x := y) (xs := qs') (Γ := Γ) h.drop.drop fun rb' => ?_
      refine hcont (ds ++ [.here y], ps, qs') _ w (by simp) ⟨r2, a, _, rfl, by rw [hd1, hdf]; simp, by simp; omega, fun c hc => hok c (List.mem_cons_of_mem _ hc), ra, rb', ?_⟩
      have h := h.swap.drop
      simpa using h
    refine mif_ok (fun q => ?_) (fun q => ?_)
    · have ha0 : ps = [] := List.length_eq_zero_iff.1 (by simp at q; omega)
      refine mif_ok (fun q2 => ?_) (fun q2 => ?_)
      · have hb0 : qs = [] := List.length_eq_zero_iff.1 (by simp at q2; omega)
        unfold zf7_5
        refine hR r w ?_
        unfold diffS
        rw [hd1, ha0, hb0, ← hhd]
        rw [diffC, List.append_nil]
        exact h
      · obtain ⟨y, qs', hbs⟩ : ∃ y qs', qs = y :: qs' := by cases qs with
          | nil => simp at q2; simp at lb; omega
          | cons y qs' => exact ⟨y, qs', rfl⟩
        refine mdraw_ok h fun w h => ?_
        refine mif_ok (fun q3 => by rw [q2] at q3; cases q3) (fun _ => ?_)
        refine mif_ok (fun q3 => by simp at q q3; omega) (fun _ => ?_)
        refine mdraw_ok h fun w h => ?_
        refine mif_ok (fun _ => ?_) (fun q3 => by rw [q] at q3; cases q3)
        exact goB w y qs' hbs (by rw [ha0, hbs, diffC]) h
    · obtain ⟨x, ps', has⟩ : ∃ x ps', ps = x :: ps' := by cases ps with
        | nil => simp at q; simp at la; omega
        | cons y qs' => exact ⟨y, qs', rfl⟩
      refine mdraw_ok h fun w h => ?_
      refine mif_ok (fun q2 => ?_) (fun q2 => ?_)
      · have hb0 : qs = [] := List.length_eq_zero_iff.1 (by simp at q2; omega)
        exact goA w x ps' has (by rw [has, hb0, diffC]) h
      · obtain ⟨y, qs', hbs⟩ : ∃ y qs', qs = y :: qs' := by cases qs with
          | nil => simp at q2; simp at lb; omega
          | cons y qs' => exact ⟨y, qs', rfl⟩
        have la1 : 0 < ps.length := by rw [has]; simp
        have lb1 : 0 < qs.length := by rw [hbs]; simp
        refine mif_ok (fun _ => ?_) (fun q3 => by simp at q3; omega)
        have gx : ps[(0 : Int).toNat]? = some x := by rw [has]; rfl
        have gy : qs[(0 : Int).toNat]? = some y := by rw [hbs]; rfl
        refine ixa_ok (s := a) h (by omega) (by omega) fun e ea => ?_
        refine ld_el ea h gx ?_
        refine ixa_ok (s := b) h (by omega) (by omega) fun e2 eb => ?_
        refine ld_el eb h gy ?_
        refine ahead_ok h fun w h => ?_
        refine mif_ok (fun q3 => ?_) (fun q3 => ?_)
        · exact goA w x ps' has (by rw [has, hbs, diffC, if_pos q3]) h
        refine mdraw_ok h fun w h => ?_
        refine mif_ok (fun q4 => by rw [q] at q4; cases q4) (fun _ => ?_)
        refine ixa_ok (s := b) h (by omega) (by omega) fun e2 eb => ?_
        refine ld_el eb h gy ?_
        refine ixa_ok (s := a) h (by omega) (by omega) fun e ea => ?_
        refine ld_el ea h gx ?_
        refine ahead_ok h fun w h => ?_
        have q3' : ¬ aheadB x y = true := by rw [q3]; simp
        refine mif_ok (fun q4 => ?_) (fun q4 => ?_)
        · exact goB w y qs' hbs (by rw [has, hbs, diffC, if_neg q3', if_pos q4]) h
        have q4' : ¬ aheadB y x = true := by rw [q4]; simp
        refine mdraw_ok h fun w h => ?_
        refine ixa_ok (s := a) h (by omega) (by omega) fun e ea => ?_
        refine ld_el ea h gx ?_
        refine ixa_ok (s := b) h (by omega) (by omega) fun e2 eb => ?_
        refine ld_el eb h gy ?_
        refine mne_kd rfl ?_
        subst has; subst hbs
        simp only [List.length_cons] at la lb hlen
        refine mif_ok (fun q5 => ?_) (fun q5 => ?_)
        · have hne : x ≠ y := fun e => by subst e; rw [eqB_self] at q5; cases q5
          refine ixa_ok (s := b) h (by omega) (by omega) fun e2 eb => ?_
          refine ld_el eb h gy ?_
          refine told_here (hok y (List.mem_cons_self ..)) h fun w h => ?_
          refine bsl_ok h fun u w h => ?_
          refine app_ok h (by simp; omega) (fun y _ => okV_plain rfl y) fun r2 w h => ?_
          refine mdraw_ok h fun w h => ?_
          refine slc_tail (x := x) (xs := ps') (Γ := Γ) h.drop.drop fun ra' => ?_
          refine slc_tail (x := y) (xs := qs') (Γ := Γ) h.drop.drop fun rb' => ?_
          have hm1 := slc_tail (x := y) (xs := qs') (Γ := Γ) (s := b) (K := fun z w' => w' = w ∧ z = cut b zk6 1 b.len) h.drop.drop fun _ => ⟨rfl, rfl⟩
          refine mst_of (kd := .sl) hm1 ?_
          refine hcont (ds ++ [.here y], ps', qs') _ w (by simp; omega) ⟨r2, _, _, rfl, by rw [hd1, diffC, if_neg q3', if_neg q4', if_neg hne]; simp, by simp; omega, fun c hc => hok c (List.mem_cons_of_mem _ hc), ra', rb', ?_⟩
          have h := h.swap.drop
          simpa using h
        · have heq : x = y := eqB_iff.1 (by simpa using q5)
          refine mdraw_ok h fun w h => ?_
          refine slc_tail (x := x) (xs := ps') (Γ := Γ) h.drop fun ra' => ?_
          refine slc_tail (x := y) (xs := qs') (Γ := Γ) h.drop fun rb' => ?_
          have hm1 := slc_tail (x := y) (xs := qs') (Γ := Γ) (s := b) (K := fun z w' => w' = w ∧ z = cut b zk6 1 b.len) h.drop fun _ => ⟨rfl, rfl⟩
          refine mst_of (kd := .sl) hm1 ?_
          refine hcont (ds, ps', qs') _ w (by simp; omega) ⟨r, _, _, rfl, by rw [hd1, diffC, if_neg q3', if_neg q4', if_pos heq], by simp; omega, fun c hc => hok c (List.mem_cons_of_mem _ hc), ra', rb', h⟩
  have headed : ∀ w, ¬ (m = m' ∧ l = l' ∧ b = b' ∧ n = n') → SH o (vr a2 zt9 zk1 (m', l', b', n', L', ()) :: vr a1 zt9 zk1 (m, l, b, n, L, ()) :: Γ) w →
      (ld P zt9 a2 zk1 fun (x5 : zT1) => mcall P n_zf13 [(KV zk1 x5)] zk2 fun (x6 : zT2) => bsl P zt6 zk2 [x6] fun x7 =>
        app P #[zt6, zt6] zt6 (Sl.v ⟨none, 0, 0⟩) (Sl.v x7) fun (x8 : Sl) => zf7_3 R a1 a2 x8) w := by
    intro w hne h
    refine ld_var (a := a2) h ?_
    refine head_ok hm hl hb hn h fun w h => ?_
    refine bsl_ok h fun u w h => ?_
    have h := h.nilS ztc zk2
    refine app_ok h (by simp) (fun y _ => okV_plain rfl y) fun r w h => ?_
    have h : SH o (slO r ztc zk2 [(0, 0, putAll [0, m', l', b', n'], ())] :: vr a2 zt9 zk1 (m', l', b', n', L', ()) :: vr a1 zt9 zk1 (m, l, b, n, L, ()) :: Γ) w := h.swap.drop
    exact rest [.cnt m' l' b' n'] r w (by rw [if_neg hne]) (by simp) h
  have h : SH o (vr a2 zt9 zk1 (m', l', b', n', L', ()) :: vr a1 zt9 zk1 (m, l, b, n, L, ()) :: Γ) w := h
  refine ld_fld0 (a := a1) h ?_
  refine ld_fld0 (a := a2) h ?_
  refine mif_ok (fun q => headed w (fun e => by simp [e.1] at q) h) (fun q1 => ?_)
  refine ld_fld (a := a1) h ?_
  refine ld_fld (a := a2) h ?_
  refine mif_ok (fun q => headed w (fun e => by simp [e.2.1] at q) h) (fun q2 => ?_)
  refine ld_fld (a := a1) h ?_
  refine ld_fld (a := a2) h ?_
  refine mif_ok (fun q => headed w (fun e => by simp [e.2.2.1] at q) h) (fun q3 => ?_)
  refine ld_fld (a := a1) h ?_
  refine ld_fld (a := a2) h ?_
  refine mif_ok (fun q => headed w (fun e => by simp [e.2.2.2] at q) h) (fun q4 => ?_)
  refine rest [] _ w ?_ (by simp) (h.nilS ztc zk2)
  rw [if_pos ⟨by simpa using q1, by simpa using q2, by simpa using q3, by simpa using q4⟩]
end
end Go.Proofs.YtpjhflboedicpaaGreatDoor
