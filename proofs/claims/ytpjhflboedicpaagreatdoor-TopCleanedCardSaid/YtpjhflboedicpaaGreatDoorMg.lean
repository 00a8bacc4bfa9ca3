/- Contracts of functions of the program, proved on their short texts. No condition. -/
import Derived.Test.YtpjhflboedicpaaGreatDoorMf
set_option linter.unusedVariables false
set_option linter.unusedSimpArgs false
namespace Go.Proofs.YtpjhflboedicpaaGreatDoor
open Go Go.W
set_option maxRecDepth 100000
def chOk : Ch → Prop
  | .cnt m l b n => I64 m ∧ I64 l ∧ I64 b ∧ I64 n
  | .here c => OkAg c.2.2.1
  | .gone _ => True
theorem setC_at {xs : List Cl} {c : Cl} {i : Nat} (hi : i ≤ xs.length) (h1 : ∀ x ∈ xs.take i, aheadB x c = true) (h2 : ∀ x, xs[i]? = some x → ¬ aheadB x c = true) :
    ((∃ x, xs[i]? = some x ∧ ¬ aheadB c x = true) → setC xs c = xs.set i c) ∧ ((¬ ∃ x, xs[i]? = some x ∧ ¬ aheadB c x = true) → setC xs c = xs.take i ++ c :: xs.drop i) := by
  have e : setC xs c = xs.take i ++ setC (xs.drop i) c := by
    conv => lhs; rw [← List.take_append_drop i xs]
    exact setC_pre h1
  rw [e]
  rcases Nat.lt_or_ge i xs.length with hlt | hge
  · have hx : xs[i]? = some xs[i] := List.getElem?_eq_getElem hlt
    have hd : xs.drop i = xs[i] :: xs.drop (i + 1) := by rw [List.getElem_cons_drop]
    have hn := h2 _ hx
    constructor
    · rintro ⟨x, hx', hc⟩
      rw [hx] at hx'; cases hx'
      rw [hd, setC, if_neg hn, if_neg hc, List.set_eq_take_append_cons_drop, if_pos hlt]
    · intro hno
      have hc : aheadB c xs[i] = true := by
        cases ha : aheadB c xs[i] with
        | true => rfl
        | false => exact absurd ⟨_, hx, by rw [ha]; simp⟩ hno
      rw [hd, setC, if_neg hn, if_pos hc]
  · have hx : xs[i]? = none := List.getElem?_eq_none hge
    constructor
    · rintro ⟨x, hx', _⟩; rw [hx] at hx'; cases hx'
    · intro _
      rw [List.drop_eq_nil_of_le hge, setC]
theorem delC_at {xs ys : List Cl} {c : Cl} {i : Nat} (h1 : ∀ x ∈ xs.take i, aheadB x c = true) (h2 : ∀ x, xs[i]? = some x → ¬ aheadB x c = true) (hd : delC xs c = some ys) :
    (∃ x, xs[i]? = some x ∧ ¬ aheadB c x = true) ∧ ys = xs.take i ++ xs.drop (i + 1) := by
  have e : delC xs c = (delC (xs.drop i) c).map (xs.take i ++ ·) := by
    conv => lhs; rw [← List.take_append_drop i xs]
    exact delC_pre h1
  rw [e] at hd
  rcases Nat.lt_or_ge i xs.length with hlt | hge
  · have hx : xs[i]? = some xs[i] := List.getElem?_eq_getElem hlt
    have hdd : xs.drop i = xs[i] :: xs.drop (i + 1) := by rw [List.getElem_cons_drop]
    have hn := h2 _ hx
    rw [hdd, delC, if_neg hn] at hd
    by_cases hc : aheadB c xs[i] = true
    · rw [if_pos hc] at hd; cases hd
    · rw [if_neg hc] at hd
      simp only [Option.map_some, Option.some.injEq] at hd
      exact ⟨⟨_, hx, hc⟩, hd.symm⟩
  · rw [List.drop_eq_nil_of_le hge, delC] at hd; cases hd
section
variable {o : Fix} {Γ Δ : List Assn} {w : World}
theorem Apply_to {R : (zT1 × Int × Unit) → World → Prop} {m l b n sort : Int} {L : Sl} {xs : List zT6} {r : Rec} {rest : Bs} (ht : vtake r.2.2.1 = some (sort, rest)) (hs : r.2.2.1.length ≤ 9223372036854775807) (hx : xs.length ≤ 1073741824) (h : SH o Γ w) [hr : RdS L zk6 xs Γ]
    (hK : ∀ a1 a2 a3 a9 (i : Nat) (is : Bool) w', i ≤ xs.length → (∀ x ∈ xs.take i, aheadB x (r.1, r.2.1, zeroA, ()) = true) → (∀ x, xs[i]? = some x → ¬ aheadB x (r.1, r.2.1, zeroA, ()) = true) → (is = true ↔ ∃ x, xs[i]? = some x ∧ ¬ aheadB (r.1, r.2.1, zeroA, ()) x = true) →
      SH o (vr a1 zt9 zk1 (m, l, b, n, L, ()) :: vr a2 ztc zk2 r :: vr a3 zt9 zk1 (0, 0, 0, 0, ⟨none, 0, 0⟩, ()) :: vr a9 zth zk6 (r.1, r.2.1, zeroA, ()) :: Γ) w' → zf1n_3 R a1 a2 a3 sort rest a9 i is w') :
    mcall P n_zf1n [KV zk1 (m, l, b, n, L, ()), KV zk2 r] (.tup [zk1, I]) R w := by
  apply zf1n_call
  refine bx_ok h fun a1 w h => ?_
  refine bx_ok h fun a2 w h => ?_
  refine alo_ok h fun a3 w h => ?_
  refine ld_fld (a := a2) h ?_
  refine Take_ok hs h fun w h => ?_
  rw [takeR_some ht]
  refine mif_ok (fun q => by cases q) (fun _ => ?_)
  refine ld_fld0 (a := a2) h ?_
  refine ld_fld (a := a2) h ?_
  refine alo_ok h fun a9 w h => ?_
  refine sto_var (a := a9) h fun w h => ?_
  have h : SH o (vr a9 zth zk6 (r.1, r.2.1, zeroA, ()) :: vr a3 zt9 zk1 (0, 0, 0, 0, ⟨none, 0, 0⟩, ()) :: vr a2 ztc zk2 r :: vr a1 zt9 zk1 (m, l, b, n, L, ()) :: Γ) w := h
  have h : SH o (vr a1 zt9 zk1 (m, l, b, n, L, ()) :: vr a2 ztc zk2 r :: vr a3 zt9 zk1 (0, 0, 0, 0, ⟨none, 0, 0⟩, ()) :: vr a9 zth zk6 (r.1, r.2.1, zeroA, ()) :: Γ) w := h.to
  have hlen := h.len (s := L)
  unfold zf1n_1
  refine loop_ok (fun (i : Nat) st w => st = ((i : Int), ()) ∧ i ≤ xs.length ∧ (∀ x ∈ xs.take i, aheadB x (r.1, r.2.1, zeroA, ()) = true) ∧ SH o (vr a1 zt9 zk1 (m, l, b, n, L, ()) :: vr a2 ztc zk2 r :: vr a3 zt9 zk1 (0, 0, 0, 0, ⟨none, 0, 0⟩, ()) :: vr a9 zth zk6 (r.1, r.2.1, zeroA, ()) :: Γ) w)
    (fun i => xs.length - i) 0 ⟨rfl, by omega, by simp, h⟩ ?_
  clear h
  rintro i _ w cont ⟨rfl, hi, hpre, h⟩ hc
  unfold zf1n_5
  dsimp only
  have two : ∀ w, (∀ x, xs[i]? = some x → ¬ aheadB x (r.1, r.2.1, zeroA, ()) = true) → SH o (vr a1 zt9 zk1 (m, l, b, n, L, ()) :: vr a2 ztc zk2 r :: vr a3 zt9 zk1 (0, 0, 0, 0, ⟨none, 0, 0⟩, ()) :: vr a9 zth zk6 (r.1, r.2.1, zeroA, ()) :: Γ) w → zf1n_2 R a1 a2 a3 sort rest a9 i w := by
    intro w hn h
    unfold zf1n_2
    refine mdraw_ok h fun w h => ?_
    refine ld_fld (a := a1) h ?_
    refine mif_ok (fun q => ?_) (fun q => ?_)
    · have hlt : i < xs.length := by simp at q; omega
      have hx : xs[i]? = some xs[i] := List.getElem?_eq_getElem hlt
      refine ld_var (a := a9) h ?_
      refine ld_fld (a := a1) h ?_
      refine ixa_ok (s := L) h (by omega) (by omega) fun e ea => ?_
      refine ld_el ea h hx ?_
      refine ahead_ok h fun w h => ?_
      refine hK a1 a2 a3 a9 i _ w hi hpre hn ?_ h
      constructor
      · intro e; exact ⟨_, hx, by simpa using e⟩
      · rintro ⟨x, hx', e⟩
        rw [hx] at hx'; cases hx'
        simpa using e
    · have hge : ¬ i < xs.length := by simp at q; omega
      refine hK a1 a2 a3 a9 i false w hi hpre hn ?_ h
      constructor
      · intro e; cases e
      · rintro ⟨x, hx', _⟩; exact absurd (List.getElem?_eq_some_iff.1 hx').1 hge
  refine mdraw_ok h fun w h => ?_
  refine ld_fld (a := a1) h ?_
  refine mif_ok (fun q => ?_) (fun q => ?_)
  · have hlt : i < xs.length := by simp at q; omega
    have hx : xs[i]? = some xs[i] := List.getElem?_eq_getElem hlt
    refine ld_fld (a := a1) h ?_
    refine ixa_ok (s := L) h (by omega) (by omega) fun e ea => ?_
    refine ld_el ea h hx ?_
    refine ld_var (a := a9) h ?_
    refine ahead_ok h fun w h => ?_
    refine mif_ok (fun q2 => ?_) (fun q2 => ?_)
    · rw [w64_of (by omega) (by omega)]
      refine hc (i + 1) _ w (by omega) ⟨rfl, hlt, fun x hx => ?_, h⟩
      rw [List.take_add_one, List.getElem?_eq_getElem hlt] at hx
      rcases List.mem_append.1 hx with hx | hx
      · exact hpre x hx
      · simp at hx; rw [hx]; exact q2
    · refine two w (fun x hx' => ?_) h
      rw [hx] at hx'; cases hx'; rw [q2]; simp
  · have hge : ¬ i < xs.length := by simp at q; omega
    refine two w (fun x hx' => ?_) h
    exact absurd (List.getElem?_eq_some_iff.1 hx').1 hge
theorem Apply4_ok {R : (zT1 × Int × Unit) → World → Prop} {m l b n : Int} {L L' : Sl} {ys : List zT6} {a1 a3 : Addr} {z : zT1} (h : SH o (vr a1 zt9 zk1 (m, l, b, n, L, ()) :: vr a3 zt9 zk1 z :: slO L' zth zk6 ys :: Γ) w)
    (hR : ∀ w', SH o (slR L' zk6 ys :: Γ) w' → R ((m, l, b, n, L', ()), 0, ()) w') : zf1n_4 R a1 a3 L' w := by
  unfold zf1n_4
  refine sto_fld (a := a1) h fun w h => ?_
  refine ld_var (a := a1) h ?_
  refine sto_var (a := a3) h fun w h => ?_
  refine ld_var (a := a3) h ?_
  have h : SH o (slO L' zth zk6 ys :: Γ) w := h.to
  exact hR w (slO_freeze h)
theorem Apply_ok {R : (zT1 × Int × Unit) → World → Prop} {m l b n m' l' b' n' : Int} {L : Sl} {xs ys : List zT6} {c : Ch} (hc : chOk c) (hst : stepC (m, l, b, n, xs) c = some (m', l', b', n', ys)) (hx : xs.length ≤ 1073741824) (h : SH o Γ w) [hr : RdS L zk6 xs Γ]
    (hR : ∀ L' w', SH o (slR L' zk6 ys :: Γ) w' → R ((m', l', b', n', L', ()), 0, ()) w') : mcall P n_zf1n [KV zk1 (m, l, b, n, L, ()), KV zk2 (chRec c)] (.tup [zk1, I]) R w := by
  cases c with
  | cnt m1 l1 b1 n1 =>
    obtain ⟨c1, c2, c3, c4⟩ := hc
    simp only [stepC, Option.some.injEq, Prod.mk.injEq] at hst
    obtain ⟨rfl, rfl, rfl, rfl, rfl⟩ := hst
    have hx4 : ∀ x ∈ [m1, l1, b1, n1], I64 x := by
      intro x hx; simp only [List.mem_cons, List.not_mem_nil, or_false] at hx
      rcases hx with rfl | rfl | rfl | rfl
      · exact c1
      · exact c2
      · exact c3
      · exact c4
    have hx5 : ∀ x ∈ [0, m1, l1, b1, n1], I64 x := fun x hx => by
      rcases List.mem_cons.1 hx with rfl | hx
      · exact ⟨by omega, by omega⟩
      · exact hx4 x hx
    have hl5 := putAll_len hx5
    have hl4 := putAll_len hx4
    simp only [List.length_cons, List.length_nil] at hl5 hl4
    have ht : vtake (chRec (.cnt m1 l1 b1 n1)).2.2.1 = some (0, putAll [m1, l1, b1, n1]) := vtake_put ⟨by omega, by omega⟩ _
    refine Apply_to ht (by show (putAll [0, m1, l1, b1, n1]).length ≤ _; omega) hx h fun a1 a2 a3 a9 i is w hi _ _ _ h => ?_
    unfold zf1n_3
    refine ld_fld (a := a1) h ?_
    refine CloneC_ok (s := L) h (by omega) fun q w h => ?_
    refine mif_ok (fun _ => ?_) (fun q => by cases q)
    have htk := takeAll_put [m1, l1, b1, n1] [] hx4
    rw [List.append_nil] at htk
    refine TakeAll_ok (n := 4) (by omega) (by omega) h (fun u us r w htt h => ?_) (fun w htt h => ?_)
    · rw [show takeAll 4 _ = _ from htk] at htt
      simp only [Option.some.injEq, Prod.mk.injEq] at htt
      obtain ⟨rfl, rfl⟩ := htt
      have hul := h.len (s := u)
      simp only [List.length_cons, List.length_nil] at hul
      refine mif_ok (fun q => by cases q) (fun _ => ?_)
      refine mif_ok (fun q => by cases q) (fun _ => ?_)
      refine ld_fld0 (a := a2) h ?_
      refine mif_ok (fun q => by cases q) (fun _ => ?_)
      refine ld_fld (a := a2) h ?_
      refine mif_ok (fun q => by cases q) (fun _ => ?_)
      refine mdraw_ok h fun w h => ?_
      refine ixa_ok (s := u) h (by omega) (by omega) fun e0 ea0 => ?_
      refine ld_el ea0 h rfl ?_
      refine ixa_ok (s := u) h (by omega) (by omega) fun e1 ea1 => ?_
      refine ld_el ea1 h rfl ?_
      refine ixa_ok (s := u) h (by omega) (by omega) fun e2 ea2 => ?_
      refine ld_el ea2 h rfl ?_
      refine ixa_ok (s := u) h (by omega) (by omega) fun e3 ea3 => ?_
      refine ld_el ea3 h rfl ?_
      refine sto_fld0 (a := a1) h fun w h => ?_
      refine mst_el ea3 h rfl ?_
      refine mst_ixa (s := u) h ea3 (by omega) (by omega) ?_
      refine mst_el ea2 h rfl ?_
      refine mst_ixa (s := u) h ea2 (by omega) (by omega) ?_
      refine mst_el ea1 h rfl ?_
      refine mst_ixa (s := u) h ea1 (by omega) (by omega) ?_
      refine sto_fld (a := a1) h fun w h => ?_
      refine mst_el ea3 h rfl ?_
      refine mst_ixa (s := u) h ea3 (by omega) (by omega) ?_
      refine mst_el ea2 h rfl ?_
      refine mst_ixa (s := u) h ea2 (by omega) (by omega) ?_
      refine sto_fld (a := a1) h fun w h => ?_
      refine mst_el ea3 h rfl ?_
      refine mst_ixa (s := u) h ea3 (by omega) (by omega) ?_
      refine sto_fld (a := a1) h fun w h => ?_
      have h : SH o (vr a1 zt9 zk1 (m1, l1, b1, n1, L, ()) :: vr a3 zt9 zk1 (0, 0, 0, 0, ⟨none, 0, 0⟩, ()) :: slO q zth zk6 xs :: Γ) w := h.to
      exact Apply4_ok h fun w h => hR _ w h
    · rw [show takeAll 4 _ = _ from htk] at htt; cases htt
  | here c =>
    simp only [stepC, Option.some.injEq, Prod.mk.injEq] at hst
    obtain ⟨rfl, rfl, rfl, rfl, rfl⟩ := hst
    have hc : OkAg c.2.2.1 := hc
    have ht : vtake (chRec (.here c)).2.2.1 = some (1, putAll (agL c.2.2.1)) := vtake_put ⟨by omega, by omega⟩ _
    have hl := putAll_len (agL_i64 hc)
    have hl1 := vput_len (n := 1) ⟨by omega, by omega⟩
    have hl10 : (agL c.2.2.1).length = 10 := rfl
    refine Apply_to ht (by show (vput 1 ++ putAll (agL c.2.2.1)).length ≤ _; rw [List.length_append]; omega) hx h fun a1 a2 a3 a9 i is w hi hp1 hp2 his h => ?_
    have hk : kOf ((chRec (.here c)).1, (chRec (.here c)).2.1, zeroA, ()) = kOf c := rfl
    have hsa := setC_at (c := c) hi (fun x hx => by rw [← (ahead_congr (c := x) hk).2]; exact hp1 x hx) (fun x hx => by rw [← (ahead_congr (c := x) hk).2]; exact hp2 x hx)
    have his' : is = true ↔ ∃ x, xs[i]? = some x ∧ ¬ aheadB c x = true := by
      rw [his]; constructor
      · rintro ⟨x, g1, g2⟩; exact ⟨x, g1, by rw [← (ahead_congr (c := x) hk).1]; exact g2⟩
      · rintro ⟨x, g1, g2⟩; exact ⟨x, g1, by rw [(ahead_congr (c := x) hk).1]; exact g2⟩
    unfold zf1n_3
    refine ld_fld (a := a1) h ?_
    refine CloneC_ok (s := L) h (by omega) fun q w h => ?_
    refine mif_ok (fun q => by cases q) (fun _ => ?_)
    refine mif_ok (fun _ => ?_) (fun q => by cases q)
    refine fDecode_ok hc h fun w h => ?_
    refine alo_ok h fun z w h => ?_
    refine sto_var (a := z) h fun w h => ?_
    refine mif_ok (fun q => by cases q) (fun _ => ?_)
    refine ld_var (a := z) h ?_
    refine sto_fld (a := a9) (n := 2) (k' := zk5) h fun w h => ?_
    have h : SH o (vr a9 zth zk6 c :: vr z ztg zk5 c.2.2.1 :: slO q zth zk6 xs :: vr a1 zt9 zk1 (m, l, b, n, L, ()) :: vr a2 ztc zk2 (chRec (Ch.here c)) :: vr a3 zt9 zk1 (0, 0, 0, 0, ⟨none, 0, 0⟩, ()) :: Γ) w := h
    have h : SH o (vr a9 zth zk6 c :: slO q zth zk6 xs :: vr a1 zt9 zk1 (m, l, b, n, L, ()) :: vr a3 zt9 zk1 (0, 0, 0, 0, ⟨none, 0, 0⟩, ()) :: Γ) w := h.to
    refine mif_ok (fun g => ?_) (fun g => ?_)
    · have hq := h.len (s := q)
      obtain ⟨x, hx1, hx2⟩ := his'.1 g
      have hlt := (List.getElem?_eq_some_iff.1 hx1).1
      refine ld_var (a := a9) h ?_
      refine ixa_ok (s := q) h (by omega) (by omega) fun e ea => ?_
      refine sto_el ea h (by simp only [Int.toNat_natCast]; omega) fun w h => ?_
      simp only [Int.toNat_natCast] at h
      rw [hsa.1 ⟨x, hx1, hx2⟩] at hR
      have h : SH o (vr a1 zt9 zk1 (m, l, b, n, L, ()) :: vr a3 zt9 zk1 (0, 0, 0, 0, ⟨none, 0, 0⟩, ()) :: slO q zth zk6 (xs.set i c) :: Γ) w := h.to
      exact Apply4_ok h fun w h => hR _ w h
    · have hno : ¬ ∃ x, xs[i]? = some x ∧ ¬ aheadB c x = true := fun e => by rw [his'.2 e] at g; cases g
      refine ld_var (a := a9) h ?_
      refine bsl_ok h fun u w h => ?_
      have h : SH o (slO q zth zk6 xs :: slO u zth zk6 [c] :: vr a1 zt9 zk1 (m, l, b, n, L, ()) :: vr a3 zt9 zk1 (0, 0, 0, 0, ⟨none, 0, 0⟩, ()) :: Γ) w := h.to
      refine Insert_one hi (by omega) h fun r w h => ?_
      rw [hsa.2 hno] at hR
      have h : SH o (vr a1 zt9 zk1 (m, l, b, n, L, ()) :: vr a3 zt9 zk1 (0, 0, 0, 0, ⟨none, 0, 0⟩, ()) :: slO r zth zk6 (xs.take i ++ c :: xs.drop i) :: Γ) w := h.to
      exact Apply4_ok h fun w h => hR _ w h
  | gone c =>
    simp only [stepC, Option.map_eq_some_iff, Prod.mk.injEq] at hst
    obtain ⟨ys', hd, rfl, rfl, rfl, rfl, rfl⟩ := hst
    have ht : vtake (chRec (.gone c)).2.2.1 = some (2, []) := by have := vtake_put (n := 2) ⟨by omega, by omega⟩ []; rwa [List.append_nil] at this
    have hl1 := vput_len (n := 2) ⟨by omega, by omega⟩
    refine Apply_to ht (by show (vput 2).length ≤ _; omega) hx h fun a1 a2 a3 a9 i is w hi hp1 hp2 his h => ?_
    have hk : kOf ((chRec (.gone c)).1, (chRec (.gone c)).2.1, zeroA, ()) = kOf c := rfl
    obtain ⟨⟨x, hx1, hx2⟩, rfl⟩ := delC_at (c := c) (fun x hx => by rw [← (ahead_congr (c := x) hk).2]; exact hp1 x hx) (fun x hx => by rw [← (ahead_congr (c := x) hk).2]; exact hp2 x hx) hd
    have hist : is = true := his.2 ⟨x, hx1, by rw [(ahead_congr (c := x) hk).1]; exact hx2⟩
    have hlt := (List.getElem?_eq_some_iff.1 hx1).1
    unfold zf1n_3
    refine ld_fld (a := a1) h ?_
    refine CloneC_ok (s := L) h (by omega) fun q w h => ?_
    refine mif_ok (fun q => by cases q) (fun _ => ?_)
    refine mif_ok (fun q => by cases q) (fun _ => ?_)
    refine mif_ok (fun _ => ?_) (fun q => by cases q)
    refine mif_ok (fun _ => ?_) (fun q => by cases q)
    refine mif_ok (fun _ => ?_) (fun q => by rw [hist] at q; cases q)
    rw [w64_of (by omega) (by omega)]
    refine Delete_one hlt (by omega) h fun r w h => ?_
    have h : SH o (vr a1 zt9 zk1 (m, l, b, n, L, ()) :: vr a3 zt9 zk1 (0, 0, 0, 0, ⟨none, 0, 0⟩, ()) :: slO r zth zk6 (xs.take i ++ xs.drop (i + 1)) :: Γ) w := h.to
    exact Apply4_ok h fun w h => hR _ w h
end
end Go.Proofs.YtpjhflboedicpaaGreatDoor
namespace Go.Proofs.YtpjhflboedicpaaGreatDoor
open Go Go.W
set_option maxRecDepth 100000
section
variable {o : Fix} {Γ Δ : List Assn} {w : World}
theorem Zero_ok {R : zT1 → World → Prop} (h : SH o Γ w) (hR : ∀ w', SH o Γ w' → R (-1, 0, 0, 0, ⟨none, 0, 0⟩, ()) w') : mcall P n_zf4 [] zk1 R w := by
  apply zf4_call
  refine alo_ok h fun a w h => ?_
  refine sto_var (a := a) h fun w h => ?_
  refine ld_var (a := a) h ?_
  exact hR w h.drop
theorem setC_len : ∀ {l : List Cl} {c : Cl}, (setC l c).length ≤ l.length + 1
  | [], c => by simp [setC]
  | x :: l, c => by
    unfold setC
    split
    · have := setC_len (l := l) (c := c); simp; omega
    · split <;> simp
theorem stepC_len {s t : Sta} {c : Ch} (h : stepC s c = some t) : t.2.2.2.2.length ≤ s.2.2.2.2.length + 1 := by
  cases c with
  | cnt m l b n => simp only [stepC, Option.some.injEq] at h; subst h; simp
  | here c => simp only [stepC, Option.some.injEq] at h; subst h; exact setC_len
  | gone c =>
    simp only [stepC, Option.map_eq_some_iff] at h
    obtain ⟨l, hd, rfl⟩ := h
    have := (delC_sub hd).length_le
    simp only; omega
theorem Restore_ok {R : (zT1 × Int × Unit) → World → Prop} {g : zT0} {N mk lt bd n : Int} {ys : List zT6} {Lr : Sl} {cs : List Ch} (hc : ∀ c ∈ cs, chOk c) (hst : stepsC zeroS cs = some (mk, lt, bd, n, ys)) (hs : StOk g N mk lt bd n ys) (hlc : cs.length ≤ 1073741824)
    (h : SH o Γ w) [hr : RdS Lr zk2 (cs.map chRec) Γ] (hR : ∀ L' w', SH o (slR L' zk6 ys :: Γ) w' → R ((mk, lt, bd, n, L', ()), 0, ()) w') :
    mcall P n_zfe [KV zk0 g, Sl.v Lr] (.tup [zk1, I]) R w := by
  apply zfe_call
  have hlr := h.len (s := Lr)
  simp only [List.length_map] at hlr
  refine bx_ok h fun a1 w h => ?_
  refine alo_ok h fun a2 w h => ?_
  refine Zero_ok h fun w h => ?_
  refine alo_ok h fun a4 w h => ?_
  refine sto_var (a := a4) h fun w h => ?_
  unfold zfe_1 zfe_3 zfe_4
  have h : SH o (vr a4 zt9 zk1 (-1, 0, 0, 0, ⟨none, 0, 0⟩, ()) :: vr a2 zt9 zk1 (0, 0, 0, 0, ⟨none, 0, 0⟩, ()) :: vr a1 zt5 zk0 g :: Γ) w := h
  have h := slO_freeze (h.nilS zth zk6)
  refine loop_ok (fun (i : Nat) st w => st = ((i : Int), ()) ∧ i ≤ cs.length ∧ ∃ m l b n' L xs, stepsC (m, l, b, n', xs) (cs.drop i) = some (mk, lt, bd, n, ys) ∧ xs.length ≤ i ∧
    SH o (slR L zk6 xs :: vr a4 zt9 zk1 (m, l, b, n', L, ()) :: vr a2 zt9 zk1 (0, 0, 0, 0, ⟨none, 0, 0⟩, ()) :: vr a1 zt5 zk0 g :: Γ) w) (fun i => cs.length - i) 0
    ⟨rfl, by omega, -1, 0, 0, 0, _, [], hst, by simp, h⟩ ?_
  clear h
  rintro i _ w cont ⟨rfl, hi, m, l, b, n', L, xs, hrest, hxl, h⟩ hcont
  unfold zfe_5
  dsimp only
  refine mif_ok (fun q => ?_) (fun q => ?_)
  · have hlt : i < cs.length := by simp at q; omega
    have hd : cs.drop i = cs[i] :: cs.drop (i + 1) := by rw [List.getElem_cons_drop]
    rw [hd, stepsC] at hrest
    obtain ⟨⟨m2, l2, b2, n2, xs2⟩, hs1, hs2⟩ := Option.bind_eq_some_iff.1 hrest
    have hl2 := stepC_len hs1
    simp only at hl2
    refine ixa_ok (s := Lr) h (by omega) (by omega) fun e ea => ?_
    refine ld_el (x := chRec cs[i]) ea h (by rw [List.getElem?_map, Int.toNat_natCast, List.getElem?_eq_getElem hlt]; rfl) ?_
    refine alo_ok h fun a13 w h => ?_
    refine sto_var (a := a13) h fun w h => ?_
    refine ld_var (a := a4) h ?_
    refine ld_var (a := a13) h ?_
    refine Apply_ok (L := L) (hc _ (List.getElem_mem hlt)) hs1 (by omega) h fun L2 w h => ?_
    refine alo_ok h fun a17 w h => ?_
    refine sto_var (a := a17) h fun w h => ?_
    refine mif_ok (fun q => by cases q) (fun _ => ?_)
    refine ld_var (a := a17) h ?_
    refine sto_var (a := a4) h fun w h => ?_
    rw [w64_of (by omega) (by omega)]
    refine hcont (i + 1) _ w (by omega) ⟨rfl, hlt, m2, l2, b2, n2, L2, xs2, hs2, by omega, ?_⟩
    exact h.to
  · have hie : i = cs.length := by simp at q; omega
    subst hie
    rw [List.drop_length, stepsC] at hrest
    simp only [Option.some.injEq, Prod.mk.injEq] at hrest
    obtain ⟨rfl, rfl, rfl, rfl, rfl⟩ := hrest
    unfold zfe_2
    refine ld_var (a := a1) h ?_
    refine ld_var (a := a4) h ?_
    refine Check_ok hs h fun w h => ?_
    refine mif_ok (fun q => by cases q) (fun _ => ?_)
    refine ld_var (a := a4) h ?_
    refine sto_var (a := a2) h fun w h => ?_
    refine ld_var (a := a2) h ?_
    exact hR L w h.to
end
end Go.Proofs.YtpjhflboedicpaaGreatDoor
namespace Go.Proofs.YtpjhflboedicpaaGreatDoor
open Go Go.W
set_option maxRecDepth 100000
instance : TyKey P ztc zk2 := TyKey.st (fs := P.fieldsOf ztc) (by kernel_rfl) (by kernel_rfl) (by kernel_rfl)
def look {β : Type} (es : List (Rec × β)) (k : Rec) : Option β := (es.find? fun p => decide (p.1 = k)).map (·.2)
theorem look_fnd {β : Type} {k : Rec} : ∀ {es : List (Rec × β)} {i : Nat} {v : β}, Fnd es k (some (i, v)) → look es k = some v
  | [], i, v, h => by have := h.1; simp at this
  | q :: es, 0, v, h => by
    have h1 := h.1
    simp only [List.getElem?_cons_zero, Option.some.injEq] at h1
    subst h1
    simp [look]
  | q :: es, i + 1, v, h => by
    obtain ⟨h1, h2⟩ := h
    have h0 : q.1 ≠ k := h2 0 (by omega) q rfl
    have ih : look es k = some v := look_fnd (i := i) ⟨by simpa using h1, fun j hj p hp => h2 (j + 1) (by omega) p (by simpa using hp)⟩
    unfold look at ih ⊢
    rw [List.find?_cons, decide_eq_false h0]; exact ih
theorem look_none {β : Type} {es : List (Rec × β)} {k : Rec} (h : Fnd es k none) : look es k = none := by
  unfold look
  rw [List.find?_eq_none.2 (fun p hp => by simpa using h p hp)]; rfl
theorem look_set {β : Type} {k k' : Rec} {y : β} : ∀ {es : List (Rec × β)} {i : Nat} {v : β}, Fnd es k (some (i, v)) → look (es.set i (k, y)) k' = if k = k' then some y else look es k'
  | [], i, v, h => by have := h.1; simp at this
  | q :: es, 0, v, h => by
    have h1 := h.1
    simp only [List.getElem?_cons_zero, Option.some.injEq] at h1
    subst h1
    unfold look
    rw [List.set_cons_zero, List.find?_cons, List.find?_cons]
    by_cases e : k = k'
    · simp [e]
    · simp [e]
  | q :: es, i + 1, v, h => by
    obtain ⟨h1, h2⟩ := h
    have h0 : q.1 ≠ k := h2 0 (by omega) q rfl
    have ih := look_set (k' := k') (y := y) (es := es) (i := i) (v := v) ⟨by simpa using h1, fun j hj p hp => h2 (j + 1) (by omega) p (by simpa using hp)⟩
    unfold look at ih ⊢
    rw [List.set_cons_succ, List.find?_cons, List.find?_cons]
    by_cases e : q.1 = k'
    · have : k ≠ k' := fun h => h0 (by rw [e, h])
      simp [e, this]
    · rw [decide_eq_false e]; exact ih
theorem look_app {β : Type} {k k' : Rec} {y : β} {es : List (Rec × β)} (h : Fnd es k none) : look (es ++ [(k, y)]) k' = if k = k' then some y else look es k' := by
  unfold look
  rw [List.find?_append]
  by_cases e : k = k'
  · subst e
    rw [List.find?_eq_none.2 (fun p hp => by simpa using h p hp)]
    simp
  · cases hf : es.find? fun p => decide (p.1 = k') with
    | none => simp [e]
    | some p => simp [e]
def akey : Ch → Rec
  | .cnt .. => (0, 0, [99, 111, 117, 110, 116, 115], ())
  | .here c => (c.1, c.2.1, [], ())
  | .gone c => (c.1, c.2.1, [], ())
theorem akey_same (a b : Ch) : sameS a b = true ↔ akey a = akey b := by
  have h : ∀ c d : Cl, (kOf c == kOf d) = true ↔ ((c.1, c.2.1, [], ()) : Rec) = (d.1, d.2.1, [], ()) := fun c d => by
    rw [beq_iff_eq]; unfold kOf
    simp only [Prod.mk.injEq, and_true]
    exact And.comm
  cases a <;> cases b <;> simp only [sameS, akey] <;> first | exact h _ _ | simp
def lastI (u : Int) (k : Rec) : List (Int × Ch) → Nat → Option Int
  | [], _ => none
  | g :: l, i => match lastI u k l (i + 1) with
    | some j => some j
    | none => if g.1 < u ∧ akey g.2 = k then some i else none
theorem lastI_append {u : Int} {k : Rec} {m : List (Int × Ch)} : ∀ {l : List (Int × Ch)} {i : Nat}, lastI u k (l ++ m) i = match lastI u k m (i + l.length) with | some j => some j | none => lastI u k l i
  | [], i => by
    simp only [List.nil_append, List.length_nil, Nat.add_zero, lastI]
    cases lastI u k m i <;> rfl
  | g :: l, i => by
    rw [List.cons_append, lastI, lastI_append (l := l) (i := i + 1)]
    have e : i + 1 + l.length = i + (g :: l).length := by simp; omega
    rw [e, lastI]
    cases lastI u k m (i + (g :: l).length) <;> rfl
theorem lastI_ge {u : Int} {k : Rec} : ∀ {l : List (Int × Ch)} {i : Nat} {j : Int}, lastI u k l i = some j → (i : Int) ≤ j
  | [], i, j, h => by simp [lastI] at h
  | g :: l, i, j, h => by
    rw [lastI] at h
    cases e : lastI u k l (i + 1) with
    | some q =>
      rw [e] at h
      simp only [Option.some.injEq] at h
      have := lastI_ge e
      omega
    | none =>
      rw [e] at h
      simp only at h
      split at h
      · simp only [Option.some.injEq] at h; omega
      · cases h
theorem lastI_none {u : Int} {a : Ch} : ∀ {l : List (Int × Ch)} {i : Nat}, lastI u (akey a) l i = none ↔ (l.any fun h => decide (h.1 < u) && sameS a h.2) = false
  | [], i => by simp [lastI]
  | g :: l, i => by
    have ih := lastI_none (u := u) (a := a) (l := l) (i := i + 1)
    rw [lastI, List.any_cons, Bool.or_eq_false_iff, ← ih]
    have hs := akey_same a g.2
    cases e : lastI u (akey a) l (i + 1) with
    | some j => simp
    | none =>
      simp only
      have : (if g.1 < u ∧ akey g.2 = akey a then some (i : Int) else none) = none ↔ (decide (g.1 < u) && sameS a g.2) = false := by
        rw [Bool.eq_false_iff, ne_eq, Bool.and_eq_true, decide_eq_true_iff, hs]
        split
        · rename_i q; simp [q.1, q.2]
        · rename_i q; simp only [true_iff]; exact fun e => q ⟨e.1, e.2.symm⟩
      rw [this]; simp
def gotOf (g : Int × Ch) : zT3 := (g.1, chRec g.2, ())
section
variable {o : Fix} {Γ Δ : List Assn} {w : World}
theorem vtake_chRec (c : Ch) : ∃ s : Int, ∃ r, vtake (chRec c).2.2.1 = some (s, r) ∧ ((∃ m l b n, c = .cnt m l b n ∧ s = 0) ∨ (∃ d, c = .here d ∧ s = 1) ∨ (∃ d, c = .gone d ∧ s = 2)) := by
  cases c with
  | cnt m l b n => exact ⟨0, _, vtake_put ⟨by omega, by omega⟩ (putAll [m, l, b, n]), .inl ⟨_, _, _, _, rfl, rfl⟩⟩
  | here d => exact ⟨1, _, vtake_put ⟨by omega, by omega⟩ (putAll (agL d.2.2.1)), .inr (.inl ⟨_, rfl, rfl⟩)⟩
  | gone d =>
    have := vtake_put (n := 2) ⟨by omega, by omega⟩ []
    rw [List.append_nil] at this
    exact ⟨2, _, this, .inr (.inr ⟨_, rfl, rfl⟩)⟩
theorem gone_text (c : Ch) : ((chRec c).2.2.1 == vput 2) = isGone c := by
  have h2 := vtake_put (n := 2) ⟨by omega, by omega⟩ []
  rw [List.append_nil] at h2
  obtain ⟨s, r, h, hc⟩ := vtake_chRec c
  rcases hc with ⟨m, l, b, n, rfl, rfl⟩ | ⟨d, rfl, rfl⟩ | ⟨d, rfl, rfl⟩
  · have : (chRec (.cnt m l b n)).2.2.1 ≠ vput 2 := fun e => by rw [e, h2] at h; cases h
    simpa [isGone] using this
  · have : (chRec (.here d)).2.2.1 ≠ vput 2 := fun e => by rw [e, h2] at h; cases h
    simpa [isGone] using this
  · simp [isGone, chRec]
theorem about_ok {R : (Rec × Bool × Unit) → World → Prop} {c : Ch} (hm : mayRec (chRec c) = true) (h : SH o Γ w) (hR : ∀ w', SH o Γ w' → R (akey c, true, ()) w') : mcall P n_zf1f [KV zk2 (chRec c)] (.tup [zk2, .b]) R w := by
  obtain ⟨_, _, hlen⟩ := mayRec_spec hm
  apply zf1f_call
  refine bx_ok h fun a w h => ?_
  refine alo_ok h fun b w h => ?_
  refine ld_fld (a := a) h ?_
  obtain ⟨s, r, ht, hc⟩ := vtake_chRec c
  refine Take_ok (by omega) h fun w h => ?_
  rw [takeR_some ht]
  refine mif_ok (fun q => by cases q) (fun _ => ?_)
  rcases hc with ⟨m, l, b', n, rfl, rfl⟩ | ⟨d, rfl, rfl⟩ | ⟨d, rfl, rfl⟩
  · refine mif_ok (fun q => by cases q) (fun _ => ?_)
    refine mif_ok (fun q => by cases q) (fun _ => ?_)
    refine mif_ok (fun _ => ?_) (fun q => by cases q)
    refine sto_var (a := b) h fun w h => ?_
    refine ld_var (a := b) h ?_
    exact hR w h.to
  · refine mif_ok (fun q => by cases q) (fun _ => ?_)
    refine mif_ok (fun q => by cases q) (fun _ => ?_)
    refine mif_ok (fun q => by cases q) (fun _ => ?_)
    refine ld_fld0 (a := a) h ?_
    refine ld_fld (a := a) h ?_
    refine sto_var (a := b) h fun w h => ?_
    refine ld_var (a := b) h ?_
    exact hR w h.to
  · refine mif_ok (fun q => by cases q) (fun _ => ?_)
    refine mif_ok (fun q => by cases q) (fun _ => ?_)
    refine mif_ok (fun q => by cases q) (fun _ => ?_)
    refine ld_fld0 (a := a) h ?_
    refine ld_fld (a := a) h ?_
    refine sto_var (a := b) h fun w h => ?_
    refine ld_var (a := b) h ?_
    exact hR w h.to
theorem cgone_ok {R : Bool → World → Prop} {c : Ch} (h : SH o Γ w) (hR : ∀ w', SH o Γ w' → R (isGone c) w') : mcall P n_zf1g [KV zk2 (chRec c)] .b R w := by
  apply zf1g_call
  refine bx_ok h fun a w h => ?_
  refine mdraw_ok h fun w h => ?_
  refine ld_fld (a := a) h ?_
  refine Put_ok ⟨by omega, by omega⟩ h fun w h => ?_
  refine mst_fld (a := a) h ?_
  rw [gone_text c]
  exact hR w h.drop
theorem Clean_ok {R : Sl → World → Prop} {l : Sl} {u : Int} {gs : List (Int × Ch)} (hm : ∀ g ∈ gs, mayRec (chRec g.2) = true) (hl : gs.length ≤ 1073741824) (h : SH o Γ w) [hr : RdS l zk3 (gs.map gotOf) Γ]
    (hR : ∀ r w', SH o (slO r ztd zk3 ((cleanU u gs).map gotOf) :: Γ) w' → R r w') : mcall P n_zfb [Sl.v l, .int .i64 u] .sl R w := by
  apply zfb_call
  have hlen := h.len (s := l)
  simp only [List.length_map] at hlen
  have hget : ∀ i : Nat, (hi : i < gs.length) → (gs.map gotOf)[(i : Int).toNat]? = some (gotOf gs[i]) := fun i hi => by rw [List.getElem?_map, Int.toNat_natCast, List.getElem?_eq_getElem hi]; rfl
  refine mkm_ok (kk := zk2) (kv := I) h fun m w h => ?_
  unfold zfb_1 zfb_9 zfb_10
  refine loop_ok (fun (i : Nat) st w => st = ((i : Int), ()) ∧ i ≤ gs.length ∧ ∃ es : List (Rec × Int), (∀ k, look es k = lastI u k (gs.take i) 0) ∧ SH o (mpA m zk2 I es :: Γ) w) (fun i => gs.length - i) 0 ⟨rfl, by omega, [], fun k => by simp [look, lastI], h⟩ ?_
  clear h
  rintro i _ w cont ⟨rfl, hi, es, hes, h⟩ hc
  unfold zfb_11
  dsimp only
  refine mif_ok (fun q => ?_) (fun q => ?_)
  · have hlt : i < gs.length := by simp at q; omega
    have htk : gs.take (i + 1) = gs.take i ++ [gs[i]] := by rw [List.take_add_one, List.getElem?_eq_getElem hlt]; rfl
    have hl1 : (gs.take i).length = i := by simp; omega
    have hsn : ∀ k, lastI u k (gs.take (i + 1)) 0 = if gs[i].1 < u ∧ akey gs[i].2 = k then some (i : Int) else lastI u k (gs.take i) 0 := fun k => by
      rw [htk, lastI_append, hl1, Nat.zero_add]
      simp only [lastI]
      split <;> rename_i e <;> split at e <;> simp_all
    refine ixa_ok (s := l) h (by omega) (by omega) fun e ea => ?_
    refine ld_el ea h (hget i hlt) ?_
    refine alo_ok h fun a w h => ?_
    refine sto_var (a := a) h fun w h => ?_
    refine ld_fld (a := a) (k' := zk2) (y := chRec gs[i].2) h ?_
    refine about_ok (hm _ (List.getElem_mem hlt)) h fun w h => ?_
    refine alo_ok h fun b w h => ?_
    refine sto_var (a := b) h fun w h => ?_
    refine mif_ok (fun _ => ?_) (fun q => by cases q)
    refine ld_fld0 (a := a) (y := gs[i].1) h ?_
    unfold zfb_12
    rw [w64_of (by omega) (by omega)]
    refine mif_ok (fun q => ?_) (fun q => ?_)
    · have hu : gs[i].1 < u := by simpa using q
      refine ld_var (a := b) h ?_
      refine mup_ok h (fun j v w hfn h => ?_) (fun w hfn h => ?_)
      · refine hc (i + 1) _ w (by omega) ⟨rfl, hlt, es.set j (akey gs[i].2, (i : Int)), fun k => ?_, h.to⟩
        rw [look_set hfn, hsn, hes]
        simp only [hu, true_and]
      · refine hc (i + 1) _ w (by omega) ⟨rfl, hlt, es ++ [(akey gs[i].2, (i : Int))], fun k => ?_, h.to⟩
        rw [look_app hfn, hsn, hes]
        simp only [hu, true_and]
    · have hu : ¬ gs[i].1 < u := by simpa using q
      refine hc (i + 1) _ w (by omega) ⟨rfl, hlt, es, fun k => ?_, h.to⟩
      rw [hsn, hes, if_neg (fun e => hu e.1)]
  · have hie : i = gs.length := by simp at q; omega
    subst hie
    rw [List.take_length] at hes
    unfold zfb_2 zfb_3 zfb_5 zfb_6
    have h := h.nilS ztd zk3
    refine loop_ok (fun (i : Nat) st w => ∃ out ds, st = (out, (i : Int), ()) ∧ i ≤ gs.length ∧ cleanU u gs = ds ++ cleanU u (gs.drop i) ∧ ds.length ≤ i ∧ SH o (slO out ztd zk3 (ds.map gotOf) :: mpA m zk2 I es :: Γ) w) (fun i => gs.length - i) 0
      ⟨_, [], rfl, by omega, by simp, by simp, h⟩ ?_
    clear h hc q
    rintro i _ w cont ⟨out, ds, rfl, hi, hds, hdl, h⟩ hc
    unfold zfb_7
    dsimp only
    refine mif_ok (fun q => ?_) (fun q => ?_)
    · have hlt : i < gs.length := by simp at q; omega
      have hd : gs.drop i = gs[i] :: gs.drop (i + 1) := by rw [List.getElem_cons_drop]
      rw [hd, cleanU] at hds
      refine ixa_ok (s := l) h (by omega) (by omega) fun e ea => ?_
      refine ld_el ea h (hget i hlt) ?_
      refine alo_ok h fun a w h => ?_
      refine sto_var (a := a) h fun w h => ?_
      refine ld_fld (a := a) (k' := zk2) (y := chRec gs[i].2) h ?_
      refine about_ok (hm _ (List.getElem_mem hlt)) h fun w h => ?_
      refine alo_ok h fun b w h => ?_
      refine sto_var (a := b) h fun w h => ?_
      refine ld_fld0 (a := a) (y := gs[i].1) h ?_
      have skip : ∀ w, (decide (gs[i].1 < u) && (isGone gs[i].2 || (gs.drop (i + 1)).any fun h => decide (h.1 < u) && sameS gs[i].2 h.2)) = true → SH o (slO out ztd zk3 (ds.map gotOf) :: mpA m zk2 I es :: Γ) w → zfb_8 cont R u m out l (l.len : Int) i w := by
        intro w hq h
        unfold zfb_8
        rw [w64_of (by omega) (by omega)]
        rw [hq, if_pos rfl] at hds
        exact hc (i + 1) _ w (by omega) ⟨out, ds, rfl, hlt, hds, by omega, h⟩
      have keep : ∀ w, (decide (gs[i].1 < u) && (isGone gs[i].2 || (gs.drop (i + 1)).any fun h => decide (h.1 < u) && sameS gs[i].2 h.2)) = false → SH o (vr a ztd zk3 (gotOf gs[i]) :: slO out ztd zk3 (ds.map gotOf) :: mpA m zk2 I es :: Γ) w →
          (ld P ztd a zk3 fun (x16 : zT3) => bsl P zta zk3 [x16] fun x17 => app P #[zta, zta] zta (Sl.v out) (Sl.v x17) fun (x18 : Sl) => zfb_8 cont R u m x18 l (l.len : Int) i) w := by
        intro w hq h
        refine ld_var (a := a) h ?_
        refine bsl_ok h fun x w h => ?_
        refine app_ok h (by simp; omega) (fun y _ => okV_plain rfl y) fun r w h => ?_
        unfold zfb_8
        rw [w64_of (by omega) (by omega)]
        rw [hq, if_neg (by simp)] at hds
        refine hc (i + 1) _ w (by omega) ⟨r, ds ++ [gs[i]], rfl, hlt, by rw [hds]; simp, by simp; omega, ?_⟩
        rw [List.map_append]
        exact h.swap.drop.swap.drop
      refine mif_ok (fun q => ?_) (fun q => ?_)
      · have hu : gs[i].1 < u := by simpa using q
        have hsp : gs = gs.take i ++ gs[i] :: gs.drop (i + 1) := by rw [← hd, List.take_append_drop]
        have hl1 : (gs.take i).length = i := by simp; omega
        have hlast' : ∀ g : Int × Ch, gs = gs.take i ++ g :: gs.drop (i + 1) → g.1 < u → lastI u (akey g.2) gs 0 = match lastI u (akey g.2) (gs.drop (i + 1)) (i + 1) with | some j => some j | none => some (i : Int) := by
          intro g hg hgu
          have e0 : lastI u (akey g.2) gs 0 = lastI u (akey g.2) (gs.take i ++ g :: gs.drop (i + 1)) 0 := by rw [← hg]
          rw [e0, lastI_append, hl1, Nat.zero_add, lastI]
          cases lastI u (akey g.2) (gs.drop (i + 1)) (i + 1) with
          | some j => rfl
          | none => simp [hgu]
        have hlast := hlast' gs[i] hsp hu
        refine mif_ok (fun _ => ?_) (fun q => by cases q)
        refine ld_var (a := b) h ?_
        have hbr : ∀ v : Int, look es (akey gs[i].2) = some v → (mif (v != (i : Int)) (zfb_8 cont R u m out l (l.len : Int) i) (ld P ztc (ad a 1) zk2 fun (x11 : zT2) => mcall P n_zf1g [(KV zk2 x11)] .b fun (x12 : Bool) => mif x12
            (zfb_8 cont R u m out l (l.len : Int) i) (ld P ztd a zk3 fun (x13 : zT3) => bsl P zta zk3 [x13] fun x14 => app P #[zta, zta] zta (Sl.v out) (Sl.v x14) fun (x15 : Sl) => zfb_8 cont R u m x15 l (l.len : Int) i))) w := by
          intro v hv
          rw [hes, hlast] at hv
          refine mif_ok (fun q => ?_) (fun q => ?_)
          · refine skip w ?_ h.to
            have hne : v ≠ (i : Int) := by simpa using q
            cases e : lastI u (akey gs[i].2) (gs.drop (i + 1)) (i + 1) with
            | none => rw [e] at hv; simp at hv; omega
            | some j =>
              have : (gs.drop (i + 1)).any (fun h => decide (h.1 < u) && sameS gs[i].2 h.2) = true := by
                cases ha : (gs.drop (i + 1)).any (fun h => decide (h.1 < u) && sameS gs[i].2 h.2) with
                | true => rfl
                | false => rw [lastI_none.2 ha] at e; cases e
              rw [this]; simp [hu]
          · have heq : v = (i : Int) := by simpa using q
            have hnone : lastI u (akey gs[i].2) (gs.drop (i + 1)) (i + 1) = none := by
              cases e : lastI u (akey gs[i].2) (gs.drop (i + 1)) (i + 1) with
              | none => rfl
              | some j =>
                rw [e] at hv; simp at hv
                have := lastI_ge e
                omega
            have hany := lastI_none.1 hnone
            refine ld_fld (a := a) (k' := zk2) (y := chRec gs[i].2) h ?_
            refine cgone_ok h fun w h => ?_
            refine mif_ok (fun q => ?_) (fun q => ?_)
            · refine skip w ?_ h.to
              rw [q, Bool.true_or, Bool.and_true]; simpa using hu
            · refine keep w ?_ h.to
              rw [q, hany]; simp
        refine lku_ok h (fun j v hfn => ?_) (fun hfn => ?_)
        · exact hbr v (look_fnd hfn)
        · exfalso
          have := look_none hfn
          rw [hes, hlast] at this
          cases e : lastI u (akey gs[i].2) (gs.drop (i + 1)) (i + 1) <;> rw [e] at this <;> simp at this
      · have hu : ¬ gs[i].1 < u := by simpa using q
        refine keep w ?_ h.to
        rw [decide_eq_false hu, Bool.false_and]
    · have hie : i = gs.length := by simp at q; omega
      subst hie
      rw [List.drop_length, cleanU, List.append_nil] at hds
      unfold zfb_4
      rw [hds] at hR
      exact hR out w h.to
end
end Go.Proofs.YtpjhflboedicpaaGreatDoor
namespace Go.Proofs.YtpjhflboedicpaaGreatDoor
open Go Go.W
set_option maxRecDepth 100000
def gotOk (g : zT3) : Prop := mayRec g.2.1 = true ∧ 0 ≤ g.1 ∧ g.1 ≤ 1099511627776
def encG (g : zT3) : Bs := vput g.1 ++ encRec g.2.1
def encGs (gs : List zT3) : Bs := gs.flatMap encG
def encF (gs : List zT3) : Bs := sealed (vput gs.length ++ encGs gs)
theorem encG_len {g : zT3} (h : gotOk g) : (encG g).length ≤ 552 := by
  have h1 := encRec_len h.1
  have h2 := vput_len (n := g.1) ⟨by have := h.2; omega, by have := h.2; omega⟩
  unfold encG; rw [List.length_append]; omega
theorem encGs_len : ∀ {gs : List zT3}, (∀ g ∈ gs, gotOk g) → (encGs gs).length ≤ 552 * gs.length
  | [], _ => by simp [encGs]
  | g :: gs, h => by
    have h1 := encG_len (h g (List.mem_cons_self ..))
    have h2 := encGs_len (gs := gs) fun g hg => h g (List.mem_cons_of_mem _ hg)
    unfold encGs at h2 ⊢
    rw [List.flatMap_cons, List.length_append, List.length_cons]; omega
section
variable {o : Fix} {Γ Δ : List Assn} {w : World}
theorem cCheck_ok {R : Int → World → Prop} {l : Sl} {gs : List zT3} (hm : ∀ g ∈ gs, gotOk g) (hl : gs.length ≤ 4096) (h : SH o Γ w) [hr : RdS l zk3 gs Γ] (hR : ∀ w', SH o Γ w' → R 0 w') : mcall P n_zf2i [Sl.v l] I R w := by
  apply zf2i_call
  have hlen := h.len (s := l)
  unfold zf2i_0 zf2i_1 zf2i_3 zf2i_4
  refine loop_ok (fun (i : Nat) t w => t = ((i : Int), ()) ∧ i ≤ gs.length ∧ SH o Γ w) (fun i => gs.length - i) 0 ⟨rfl, by omega, h⟩ ?_
  clear h
  rintro i _ w cont ⟨rfl, hi, h⟩ hc
  unfold zf2i_5
  dsimp only
  refine mif_ok (fun q => ?_) (fun q => ?_)
  · have hlt : i < gs.length := by simp at q; omega
    obtain ⟨g1, g2, g3⟩ := hm _ (List.getElem_mem hlt)
    refine ixa_ok (s := l) h (by omega) (by omega) fun e ea => ?_
    refine ld_el ea h (List.getElem?_eq_getElem hlt) ?_
    refine alo_ok h fun a w h => ?_
    refine sto_var (a := a) h fun w h => ?_
    refine ld_fld (a := a) (k' := zk2) (y := gs[i].2.1) h ?_
    refine PutRecord_ok g1 h fun w h => ?_
    have hel := encRec_len g1
    refine TakeRecord_ok (by omega) h fun w h => ?_
    have ht := takeRec_enc g1 []
    rw [List.append_nil] at ht
    rw [takeRecR_some ht]
    refine alo_ok h fun b w h => ?_
    refine sto_var (a := b) h fun w h => ?_
    refine mif_ok (fun q => by cases q) (fun _ => ?_)
    refine ld_fld0 (a := a) (y := gs[i].1) h ?_
    refine mif_ok (fun q => by simp at q; omega) (fun _ => ?_)
    refine ld_fld0 (a := a) (y := gs[i].1) h ?_
    refine mif_ok (fun q => by simp at q; omega) (fun _ => ?_)
    rw [w64_of (by omega) (by omega)]
    exact hc (i + 1) _ w (by omega) ⟨rfl, hlt, h.to⟩
  · unfold zf2i_2
    refine mif_ok (fun q => by simp at q; omega) (fun _ => hR w h)
theorem cEncode_ok {R : (Bs × Int × Unit) → World → Prop} {l : Sl} {gs : List zT3} (hm : ∀ g ∈ gs, gotOk g) (hl : gs.length ≤ 4096) (h : SH o Γ w) [hr : RdS l zk3 gs Γ] (hR : ∀ w', SH o Γ w' → R (encF gs, 0, ()) w') : mcall P n_zf16 [Sl.v l] (.tup [.s, I]) R w := by
  apply zf16_call
  have hlen := h.len (s := l)
  refine cCheck_ok hm hl h fun w h => ?_
  refine mif_ok (fun q => by cases q) (fun _ => ?_)
  refine alo_ok h fun c w h => ?_
  have h := bld_new (tE := zt3) h
  rw [hlen]
  have hvl := vput_len (n := (gs.length : Int)) ⟨by omega, by omega⟩
  refine Put_ok ⟨by omega, by omega⟩ h fun w h => ?_
  refine WriteString_ok (bs := []) h (by simp; omega) fun r w h => ?_
  rw [List.nil_append] at h
  unfold zf16_1 zf16_3 zf16_4
  rw [hlen]
  refine loop_ok (fun (i : Nat) t w => t = ((i : Int), ()) ∧ i ≤ gs.length ∧ SH o (bld c (vput gs.length ++ encGs (gs.take i)) :: Γ) w) (fun i => gs.length - i) 0
    ⟨rfl, by omega, by simpa [encGs] using h⟩ ?_
  clear h
  rintro i _ w cont ⟨rfl, hi, h⟩ hc
  unfold zf16_5
  dsimp only
  have hel := encGs_len (gs := gs.take i) fun x hx => hm x (List.mem_of_mem_take hx)
  rw [List.length_take] at hel
  refine mif_ok (fun q => ?_) (fun q => ?_)
  · have hlt : i < gs.length := by simp at q; omega
    have hg := hm _ (List.getElem_mem hlt)
    obtain ⟨g1, g2, g3⟩ := hg
    have hgl := encG_len ⟨g1, g2, g3⟩
    refine ixa_ok (s := l) h (by omega) (by omega) fun e ea => ?_
    refine ld_el ea h (List.getElem?_eq_getElem hlt) ?_
    refine alo_ok h fun a w h => ?_
    refine sto_var (a := a) h fun w h => ?_
    refine mdraw_ok h fun w h => ?_
    refine ld_fld0 (a := a) (y := gs[i].1) h ?_
    refine ld_fld (a := a) (k' := zk2) (y := gs[i].2.1) h ?_
    refine Put_ok ⟨by omega, by omega⟩ h fun w h => ?_
    refine mst_fld (a := a) (k' := zk2) (y := gs[i].2.1) h ?_
    refine PutRecord_ok g1 h fun w h => ?_
    have hgl' : (vput gs[i].1).length + (encRec gs[i].2.1).length ≤ 552 := by unfold encG at hgl; rwa [List.length_append] at hgl
    refine mcat_ok (by omega) ?_
    refine WriteString_ok h (by rw [List.length_append, List.length_append]; omega) fun r w h => ?_
    rw [w64_of (by omega) (by omega)]
    refine hc (i + 1) _ w (by omega) ⟨rfl, hlt, ?_⟩
    have e1 : encGs (gs.take (i + 1)) = encGs (gs.take i) ++ (vput gs[i].1 ++ encRec gs[i].2.1) := by
      simp only [encGs, encG, List.take_add_one, List.getElem?_eq_getElem hlt, Option.toList, List.flatMap_append, List.flatMap_cons, List.flatMap_nil, List.append_nil]
    rw [e1, ← List.append_assoc]
    exact h.to
  · have hi' : i = gs.length := by simp at q; omega
    subst hi'
    rw [List.take_length] at h hel
    unfold zf16_2
    refine BString_ok h (by rw [List.length_append]; omega) fun w h => ?_
    refine Seal_ok (by rw [List.length_append]; omega) h fun w h => ?_
    exact hR w h
theorem cDecode_ok {R : (Sl × Int × Unit) → World → Prop} {gs : List zT3} (hm : ∀ g ∈ gs, gotOk g) (hl : gs.length ≤ 4096) (h : SH o Γ w) (hR : ∀ l w', SH o (slO l ztd zk3 gs :: Γ) w' → R (l, 0, ()) w') : mcall P n_zf1m [.string ⟨(encF gs).toArray⟩] (.tup [.sl, I]) R w := by
  apply zf1m_call
  have hvl := vput_len (n := (gs.length : Int)) ⟨by omega, by omega⟩
  have hel := encGs_len hm
  have hsl : (encF gs).length = (vput gs.length).length + (encGs gs).length + 4 := by simp [encF, sealed]; omega
  refine Unseal_ok (by omega) h fun w h => ?_
  have hu : unsealR (encF gs) = (vput gs.length ++ encGs gs, 0, ()) := by unfold unsealR encF; rw [unsealed_sealed]
  rw [hu]
  refine mif_ok (fun q => by cases q) (fun _ => ?_)
  refine Take_ok (by rw [List.length_append]; omega) h fun w h => ?_
  rw [takeR_some (vtake_put ⟨by omega, by omega⟩ _)]
  refine mif_ok (fun q => by cases q) (fun _ => ?_)
  refine mif_ok (fun q => by simp at q; omega) (fun _ => ?_)
  refine mif_ok (fun q => by simp at q; omega) (fun _ => ?_)
  unfold zf1m_1 zf1m_3 zf1m_4
  have h := h.nilS ztd zk3
  refine loop_ok (fun (i : Nat) st w => ∃ l, st = (encGs (gs.drop i), l, (i : Int), ()) ∧ i ≤ gs.length ∧ SH o (slO l ztd zk3 (gs.take i) :: Γ) w) (fun i => gs.length - i) 0 ⟨_, rfl, by omega, h⟩ ?_
  clear h
  rintro i _ w cont ⟨l, rfl, hi, h⟩ hc
  unfold zf1m_5
  dsimp only
  refine mif_ok (fun q => ?_) (fun q => ?_)
  · have hlt : i < gs.length := by simp at q; omega
    obtain ⟨g1, g2, g3⟩ := hm _ (List.getElem_mem hlt)
    have hd : gs.drop i = gs[i] :: gs.drop (i + 1) := by rw [List.getElem_cons_drop]
    have hdl := encGs_len (gs := gs.drop i) fun x hx => hm x (List.mem_of_mem_drop hx)
    rw [List.length_drop] at hdl
    have hde : encGs (gs.drop i) = vput gs[i].1 ++ (encRec gs[i].2.1 ++ encGs (gs.drop (i + 1))) := by rw [hd]; unfold encGs; rw [List.flatMap_cons]; unfold encG; rw [List.append_assoc]
    rw [hde] at hdl ⊢
    refine Take_ok (by omega) h fun w h => ?_
    rw [takeR_some (vtake_put ⟨by omega, by omega⟩ _)]
    refine mif_ok (fun q => by cases q) (fun _ => ?_)
    rw [List.length_append] at hdl
    refine TakeRecord_ok (by dsimp only; omega) h fun w h => ?_
    rw [takeRecR_some (takeRec_enc g1 _)]
    refine alo_ok h fun b w h => ?_
    refine sto_var (a := b) h fun w h => ?_
    refine mif_ok (fun q => by cases q) (fun _ => ?_)
    refine ld_var (a := b) h ?_
    refine bsl_ok h fun u w h => ?_
    refine app_ok h (by simp; omega) (fun y _ => okV_plain rfl y) fun r w h => ?_
    rw [w64_of (by omega) (by omega)]
    refine hc (i + 1) _ w (by omega) ⟨r, rfl, hlt, ?_⟩
    have htk : gs.take (i + 1) = gs.take i ++ [gs[i]] := by rw [List.take_add_one, List.getElem?_eq_getElem hlt]; rfl
    rw [htk]
    exact h.swap.drop.swap.drop
  · have hi' : i = gs.length := by simp at q; omega
    subst hi'
    unfold zf1m_2
    rw [List.drop_length]
    refine mif_ok (fun q => by cases q) (fun _ => ?_)
    rw [List.take_length] at h
    refine cCheck_ok hm hl h fun w h => ?_
    refine mif_ok (fun q => by cases q) (fun _ => ?_)
    exact hR l w h
end
end Go.Proofs.YtpjhflboedicpaaGreatDoor
namespace Go.Proofs.YtpjhflboedicpaaGreatDoor
open Go Go.W
set_option maxRecDepth 100000
def kAt (es : List (Bs × Option Addr)) (i : Nat) : Bs := ((es[i]?).map (·.1)).getD []
theorem kAt_range (es : List (Bs × Option Addr)) : (List.range es.length).map (kAt es) = es.map (·.1) := by
  apply List.ext_getElem?
  intro j
  rw [List.getElem?_map, List.getElem?_map]
  rcases Nat.lt_or_ge j es.length with h | h
  · rw [List.getElem?_range h, List.getElem?_eq_getElem h]; simp [kAt, List.getElem?_eq_getElem h]
  · rw [List.getElem?_eq_none (by simpa using h), List.getElem?_eq_none h]; rfl
section
variable {o : Fix} {Γ Δ : List Assn} {w : World}
theorem Keys_ok {R : Unit → World → Prop} {Y : Value} {v : Addr} {m : Nat} {es : List (Bs × Option Addr)} (I : List Bs → List Assn) (h : SH o (vr v ztk .m (some m) :: mpA m .s .p es :: I []) w)
    (hy : ∀ pre x A w (K : Bool → World → Prop), pre.length < es.length → SH o (A :: I pre) w → (∀ w', SH o (A :: I (pre ++ [x])) w' → K true w') → mdyn P Y [.string ⟨x.toArray⟩] .b K w)
    (hR : ∀ ks w', ks.Perm (es.map (·.1)) → SH o (mpA m .s .p es :: I ks) w' → R () w') :
    mcall P n_zf2w [Y, .pointer (some v)] (.tup []) R w := by
  apply zf2w_call
  refine ld_fld0 (a := v) h ?_
  refine rng_ok h fun r w h => ?_
  have h : SH o (itA r m .s .p es [] :: vr v ztk .m (some m) :: I (([] : List Nat).map (kAt es))) w := h
  unfold zf2w_1
  refine loop_ok (fun (S : List Nat) t w => t = () ∧ S.length ≤ es.length ∧ SH o (itA r m .s .p es S :: vr v ztk .m (some m) :: I (S.map (kAt es))) w) (fun S => es.length - S.length) [] ⟨rfl, by simp, h⟩ ?_
  clear h
  rintro S _ w cont ⟨rfl, hS, h⟩ hc
  unfold zf2w_2
  refine nxt_ok h (fun hp w h => ?_) (fun i x y w hi hxy h => ?_)
  · refine hR _ w ?_ (it_close h.swap.drop)
    rw [← kAt_range]; exact hp.map _
  · refine ent_ok h hxy ?_
    obtain ⟨_, _, _, _, hnd, hlt, _⟩ := it_open.1 h
    have hle := (List.Nodup.length_le_of_subset hnd (l₂ := List.range es.length) fun a ha => by rw [List.mem_range]; exact hlt a ha)
    rw [List.length_range, List.length_append, List.length_cons, List.length_nil] at hle
    have hk : kAt es i = x := by simp [kAt, hxy]
    show mdyn P Y [.string ⟨x.toArray⟩] .b _ w
    refine hy (S.map (kAt es)) x (starA [itA r m .s .p es (S ++ [i]), vr v ztk .m (some m)]) w _ (by simp; omega) (SH.star2.2 h) fun w h => ?_
    refine mif_ok (fun q => by cases q) (fun _ => ?_)
    refine hc (S ++ [i]) _ w (by simp; omega) ⟨rfl, by simp; omega, ?_⟩
    rw [List.map_append, List.map_cons, List.map_nil, hk]
    exact SH.star2.1 h
theorem AppendSeq_ok {R : Sl → World → Prop} {v : Addr} {m : Nat} {es : List (Bs × Option Addr)} (hes : es.length ≤ 1073741824) (h : SH o (vr v ztk .m (some m) :: mpA m .s .p es :: Γ) w)
    (hR : ∀ u ks w', ks.Perm (es.map (·.1)) → SH o (slO u zt4 .s ks :: mpA m .s .p es :: Γ) w' → R u w') :
    mcall P n_zf44 [(Sl.v ⟨none, 0, 0⟩), .func (.func n_zf2w) #[] #[.pointer (some v)]] .sl R w := by
  refine mcall_marks zf44_get (c := zf44_B) (n := 13) (by kernel_rfl) (by kernel_rfl) (by kernel_rfl) (by kernel_rfl) ?_
  have hpre : (bx P ztp .sl ⟨none, 0, 0⟩ fun a1 => fun w =>
      ((Value.func (.func n_zf2w) #[] #[.pointer (some v)], a1, ()) : Value × Addr × Unit).1 = .func (.func n_zf2w) #[] #[.pointer (some v)] ∧
      SH o (vr ((Value.func (.func n_zf2w) #[] #[.pointer (some v)], a1, ()) : Value × Addr × Unit).2.1 ztp .sl ⟨none, 0, 0⟩ :: vr v ztk .m (some m) :: mpA m .s .p es :: Γ) w) w := by
    refine bx_ok h fun a1 w h => ?_
    exact ⟨rfl, h⟩
  refine pm_cut (l := [(1, .v), (2, .ad)]) (F := fun x w => x.1 = .func (.func n_zf2w) #[] #[.pointer (some v)] ∧ SH o (vr x.2.1 ztp .sl ⟨none, 0, 0⟩ :: vr v ztk .m (some m) :: mpA m .s .p es :: Γ) w)
    (c' := Code.at zf44_B [.snd]) hmix 1 (by simp [argE]) (by kernel_rfl) (by kernel_rfl) ?_ hpre
  clear hpre h
  rintro ⟨q, a1, _⟩ w ⟨rfl, h⟩
  dsimp only at h ⊢
  refine pm_seq (a := Code.at zf44_B [.snd, .fst]) (b := Code.at zf44_B [.snd, .snd]) (by kernel_rfl)
    (K := fun env ds w => ∃ d v6 u ks, env = mkE 13 [(2, .ad), (6, .v)] (a1, v6, ()) ∧ ds = [d] ∧ ks.Perm (es.map (·.1)) ∧ SH o (dfA d :: vr a1 ztp .sl u :: slO u zt4 .s ks :: mpA m .s .p es :: Γ) w) ?_ ?_
  · refine pm_cut (l := [(2, .ad), (6, .v)]) (F := fun x w => x.1 = a1 ∧ x.2.1 = .func (.func n_zf2w) #[] #[.pointer (some v)] ∧ SH o (vr a1 ztp .sl ⟨none, 0, 0⟩ :: vr v ztk .m (some m) :: mpA m .s .p es :: Γ) w)
      (T := (fun w => a1 = a1 ∧ Value.func (.func n_zf2w) #[] #[.pointer (some v)] = .func (.func n_zf2w) #[] #[.pointer (some v)] ∧ SH o (vr a1 ztp .sl ⟨none, 0, 0⟩ :: vr v ztk .m (some m) :: mpA m .s .p es :: Γ) w) w)
      (c' := Code.at zf44_B [.snd, .fst, .snd]) hmix 1 (mkE_len ..) (by kernel_rfl) (by kernel_rfl) ?_ ⟨rfl, rfl, h⟩
    clear h
    rintro ⟨b1, q, _⟩ w ⟨rfl, h9, h⟩
    dsimp only at h9 h ⊢
    subst h9
    refine pm_block (id := 0) (c := Code.at zf44_B [.snd, .fst, .snd, .blk]) (by kernel_rfl) ?_
    have hcode : Code.at zf44_B [.snd, .fst, .snd, .blk] = .rangeFunc (.tmp 6) #[7] (Code.at zf44_B [.snd, .fst, .snd, .blk, .fst]) (Code.at zf44_B [.snd, .fst, .snd, .blk, .blk]) := by kernel_rfl
    rw [hcode]
    refine WPM.range h (gf := n_zf2w) (lb := #[.pointer (some v)]) rfl zf2w_ent ?_
    clear h
    intro l r D w hps has hbo hn hRel h
    let A : List Bs → Assn := fun pre => exA fun u : Sl => starA [vr b1 ztp .sl u, slO u zt4 .s pre]
    have h := h.nilS zt4 .s
    have h3 : SH o (vr b1 ztp .sl ⟨none, 0, 0⟩ :: slO ⟨none, 0, 0⟩ zt4 .s [] :: vr v ztk .m (some m) :: mpA m .s .p es :: rfA l r .ready none :: dfA r.d :: Γ) w := h.to
    have h4 : SH o (A [] :: vr v ztk .m (some m) :: mpA m .s .p es :: rfA l r .ready none :: dfA r.d :: Γ) w := SH.ex.2 ⟨⟨none, 0, 0⟩, SH.star2.2 h3⟩
    refine Keys_ok (fun pre => rfA l r .ready none :: A pre :: dfA r.d :: Γ) (v := v) (m := m) (es := es) h4.to ?_ ?_
    · intro pre x A0 w K hlt h hT
      show myield P l [.string ⟨x.toArray⟩] .b K w
      have h : SH o (rfA l r .ready none :: A0 :: A pre :: dfA r.d :: Γ) w := h.to
      refine yield_cut (n := 13) (l2 := [(2, .ad), (5, .s)]) (F := fun y w => y.1 = b1 ∧ y.2.1 = x ∧ SH o (rfA l r .ready none :: A0 :: A pre :: dfA r.d :: Γ) w) hmix h (by rw [hps]; rfl) hn hRel ?_ ?_
      · rw [has, hps]
        exact Eq.mp (α := (fun w => (b1, x, ()).1 = b1 ∧ (b1, x, ()).2.1 = x ∧ SH o (rfA l r .ready none :: A0 :: A pre :: dfA r.d :: Γ) w) w) (by kernel_rfl) ⟨rfl, rfl, h⟩
      · rintro ⟨y1, y2, _⟩ w ⟨rfl, rfl, h⟩
        refine ⟨_, h, fun w h => ?_⟩
        rw [hbo]
        refine Eq.mp (α := (ld P ztp y1 .sl fun (x1 : Sl) => bsl P ztp .s [y2] fun x3 => app P #[ztp, ztp] ztp (Sl.v x1) (Sl.v x3) fun (x4 : Sl) => sto P ztp y1 .sl x4 <| rndQ o l r K .normal []) w) (by kernel_rfl) ?_
        have h := SH.takeI (A pre) h
        obtain ⟨u, h⟩ := SH.ex.1 h
        have h := SH.star2.1 h
        refine ld_fld0 (a := y1) h ?_
        refine bsl_ok h fun u2 w h => ?_
        refine app_ok h (by simp; omega) (fun y _ => okV_plain rfl y) fun u3 w h => ?_
        refine sto_fld0 (a := y1) h fun w h => ?_
        have h : SH o (vr y1 ztp .sl u3 :: slO u3 zt4 .s (pre ++ [y2]) :: rfA l r .busy none :: A0 :: dfA r.d :: Γ) w := h.to
        have h : SH o (A (pre ++ [y2]) :: rfA l r .busy none :: A0 :: dfA r.d :: Γ) w := SH.ex.2 ⟨u3, SH.star2.2 h⟩
        have h : SH o (rfA l r .busy none :: A0 :: A (pre ++ [y2]) :: dfA r.d :: Γ) w := h.to
        refine ⟨_, h, fun w h => hT w ?_⟩
        exact h.to
    · intro ks w hp h
      have h : SH o (rfA l r .ready none :: A ks :: dfA r.d :: mpA m .s .p es :: Γ) w := h.to
      refine ⟨.ready, none, _, by simp, h, fun w h => ?_⟩
      obtain ⟨u, h⟩ := SH.ex.1 h
      have h := SH.star2.1 h
      exact ⟨r.d, _, u, ks, rfl, rfl, hp, h.to⟩
  · rintro _ _ w hl ⟨d, v6, u, ks, rfl, rfl, hp, h⟩
    refine pm_code hmix (T := (ld P ztp a1 .sl fun (x3 : Sl) => mtake P [d] (R x3)) w) (by kernel_rfl) ?_
    refine ld_fld0 (a := a1) h ?_
    refine mtake_ok (Γ := vr a1 ztp .sl u :: slO u zt4 .s ks :: mpA m .s .p es :: Γ) h fun w h => ?_
    exact hR u ks w hp h.drop
end
end Go.Proofs.YtpjhflboedicpaaGreatDoor
namespace Go.Proofs.YtpjhflboedicpaaGreatDoor
open Go Go.W
set_option maxRecDepth 100000
theorem swap_list {α : Type} {l : List α} {i j : Nat} {a b : α} (hi : l[i]? = some a) (hj : l[j]? = some b) (hne : i ≠ j) : ((l.set i b).set j a).Perm l := by
  obtain ⟨h1, rfl⟩ := List.getElem?_eq_some_iff.1 hi
  obtain ⟨h2, rfl⟩ := List.getElem?_eq_some_iff.1 hj
  have := Array.swap_perm (xs := l.toArray) (i := i) (j := j) (by simpa using h1) (by simpa using h2)
  have h3 := Array.perm_iff_toList_perm.1 this
  simpa [Array.swap] using h3
section
variable {o : Fix} {Γ Δ : List Assn} {w : World}
theorem Len_small {R : Int → World → Prop} {n : Nat} (hn : n ≤ 12) (h : SH o Γ w) (hR : ∀ i w', SH o Γ w' → R i w') : mcall P n_zf46 [(.int .u64 (wr64 (n : Int)))] I R w := by
  apply zf46_call
  apply zf4x_call
  have e : wr64 (n : Int) = n := by rw [wr64_eq]; omega
  rw [e]
  refine mif_ok (fun g => by simp at g; omega) (fun _ => ?_)
  refine mif_ok (fun g => by simp at g; omega) (fun _ => ?_)
  refine mif_ok (fun g => by simp at g; omega) (fun _ => ?_)
  unfold zf4x_3
  have : n = 0 ∨ n = 1 ∨ n = 2 ∨ n = 3 ∨ n = 4 ∨ n = 5 ∨ n = 6 ∨ n = 7 ∨ n = 8 ∨ n = 9 ∨ n = 10 ∨ n = 11 ∨ n = 12 := by omega
  rcases this with rfl | rfl | rfl | rfl | rfl | rfl | rfl | rfl | rfl | rfl | rfl | rfl | rfl
  · exact ⟨0, by kernel_rfl, hR _ w h⟩
  · exact ⟨1, by kernel_rfl, hR _ w h⟩
  · exact ⟨2, by kernel_rfl, hR _ w h⟩
  · exact ⟨2, by kernel_rfl, hR _ w h⟩
  · exact ⟨3, by kernel_rfl, hR _ w h⟩
  · exact ⟨3, by kernel_rfl, hR _ w h⟩
  · exact ⟨3, by kernel_rfl, hR _ w h⟩
  · exact ⟨3, by kernel_rfl, hR _ w h⟩
  · exact ⟨4, by kernel_rfl, hR _ w h⟩
  · exact ⟨4, by kernel_rfl, hR _ w h⟩
  · exact ⟨4, by kernel_rfl, hR _ w h⟩
  · exact ⟨4, by kernel_rfl, hR _ w h⟩
  · exact ⟨4, by kernel_rfl, hR _ w h⟩
theorem Less_any {R : Bool → World → Prop} {x y : Bs} (hR : ∀ b, R b w) : mcall P n_zf4u [.string ⟨x.toArray⟩, .string ⟨y.toArray⟩] .b R w := by
  have nan : ∀ {z : Bs} {K : Bool → World → Prop}, (∀ b, K b w) → mcall P n_zf52 [.string ⟨z.toArray⟩] .b K w := fun hK => by
    apply zf52_call; exact hK _
  apply zf4u_call
  refine nan fun b => ?_
  refine mif_ok (fun _ => ?_) (fun _ => hR _)
  refine nan fun b => ?_
  exact mif_ok (fun _ => hR _) (fun _ => hR _)
theorem insertion_perm {R : Unit → World → Prop} {s : Sl} {xs : List Bs} (hl : xs.length ≤ 1099511627776) (h : SH o (slO s zt4 .s xs :: Γ) w) (hR : ∀ ys w', ys.Perm xs → SH o (slO s zt4 .s ys :: Γ) w' → R () w') :
    mcall P n_zf4o [Sl.v s, .int .i64 0, .int .i64 (s.len : Int)] (.tup []) R w := by
  apply zf4o_call
  have hlen := h.len (s := s)
  unfold zf4o_0 zf4o_1
  refine loop_ok (fun (q : Nat × List Bs) t w => t = ((q.1 : Int), ()) ∧ 1 ≤ q.1 ∧ q.2.Perm xs ∧ SH o (slO s zt4 .s q.2 :: Γ) w) (fun q => xs.length + 1 - q.1) (1, xs) ⟨rfl, by simp, .refl _, h⟩ ?_
  clear h
  rintro ⟨i, ys⟩ _ w cont ⟨rfl, hi, hp, h⟩ hc
  simp only at hi hp h hc
  unfold zf4o_2
  dsimp only
  have hyl := hp.length_eq
  refine mif_ok (fun g => ?_) (fun g => hR ys w hp h)
  have hlt : i < xs.length := by simp at g; omega
  unfold zf4o_3 zf4o_5 zf4o_6
  refine loop_ok (fun (q : Nat × List Bs) t w => t = ((q.1 : Int), ()) ∧ q.1 ≤ i ∧ q.2.Perm xs ∧ SH o (slO s zt4 .s q.2 :: Γ) w) (fun q => q.1) (i, ys) ⟨rfl, by simp, hp, h⟩ ?_
  clear h
  rintro ⟨j, zs⟩ _ w cont2 ⟨rfl, hj, hp2, h⟩ hc2
  simp only at hj hp2 h hc2
  have hzl := hp2.length_eq
  have fin : ∀ w, SH o (slO s zt4 .s zs :: Γ) w → zf4o_4 cont R s 0 (s.len : Int) i w := by
    intro w h
    unfold zf4o_4
    rw [w64_of (by omega) (by omega)]
    exact hc (i + 1, zs) _ w (by simp only; omega) ⟨rfl, by simp, hp2, h⟩
  unfold zf4o_7
  dsimp only
  refine mdraw_ok h fun w h => ?_
  refine mif_ok (fun g => ?_) (fun _ => fin w h)
  have hj0 : 0 < j := by simp at g; omega
  have hjl : j < zs.length := by omega
  have hjl1 : j - 1 < zs.length := by omega
  have ej : ((j : Int) - 1).toNat = j - 1 := by omega
  rw [w64_of (x := (j : Int) - 1) (by omega) (by omega)]
  refine ixa_ok (s := s) h (by omega) (by omega) fun e1 ea1 => ?_
  refine ld_el ea1 h (List.getElem?_eq_getElem (by simpa using hjl)) ?_
  refine ixa_ok (s := s) h (by omega) (by omega) fun e2 ea2 => ?_
  refine ld_el ea2 h (List.getElem?_eq_getElem (by omega)) ?_
  refine Less_any fun b => ?_
  refine mif_ok (fun _ => ?_) (fun _ => fin w h)
  refine mdraw_ok h fun w h => ?_
  refine ixa_ok (s := s) h (by omega) (by omega) fun e3 ea3 => ?_
  refine ld_el (x := zs[j - 1]) ea3 h (by rw [ej]; exact List.getElem?_eq_getElem hjl1) ?_
  refine ixa_ok (s := s) h (by omega) (by omega) fun e4 ea4 => ?_
  refine ld_el (x := zs[j]) ea4 h (by simp) ?_
  refine ixa_ok (s := s) h (by omega) (by omega) fun e5 ea5 => ?_
  refine sto_el ea5 h (by simp only [Int.toNat_natCast]; omega) fun w h => ?_
  refine ixa_ok (s := s) h (by omega) (by omega) fun e6 ea6 => ?_
  refine sto_el ea6 h (by rw [ej, List.length_set]; omega) fun w h => ?_
  rw [ej, Int.toNat_natCast] at h
  refine hc2 (j - 1, (zs.set j zs[j - 1]).set (j - 1) zs[j]) _ w (by simp only; omega) ⟨by congr 1; omega, by simp only; omega, ?_, h⟩
  exact (swap_list (List.getElem?_eq_getElem hjl) (List.getElem?_eq_getElem hjl1) (by omega)).trans hp2
theorem Sort_perm {R : Unit → World → Prop} {s : Sl} {xs : List Bs} (hl : xs.length ≤ 12) (h : SH o (slO s zt4 .s xs :: Γ) w) (hR : ∀ ys w', ys.Perm xs → SH o (slO s zt4 .s ys :: Γ) w' → R () w') :
    mcall P n_zf2v [Sl.v s] (.tup []) R w := by
  apply zf2v_call
  have hlen := h.len (s := s)
  refine Len_small (n := s.len) (by omega) h fun i w h => ?_
  apply zf45_call
  unfold zf45_0 zf45_1
  refine loop_ok (fun (_ : Unit) t w => t = (0, (s.len : Int), i, true, true, ()) ∧ SH o (slO s zt4 .s xs :: Γ) w) (fun _ => 0) () ⟨rfl, h⟩ ?_
  clear h
  rintro _ _ w cont ⟨rfl, h⟩ _
  unfold zf45_2
  dsimp only
  refine mif_ok (fun _ => ?_) (fun g => ?_)
  · exact insertion_perm (by omega) h fun ys w hp h => hR ys w hp h
  · rw [w64_of (by omega) (by omega)] at g; simp at g; omega
theorem Sorted_ok {R : Sl → World → Prop} {v : Addr} {m : Nat} {es : List (Bs × Option Addr)} (hes : es.length ≤ 12) (h : SH o (vr v ztk .m (some m) :: mpA m .s .p es :: Γ) w)
    (hR : ∀ u ks w', ks.Perm (es.map (·.1)) → SH o (slO u zt4 .s ks :: mpA m .s .p es :: Γ) w' → R u w') :
    mcall P n_zf1h [.func (.func n_zf2w) #[] #[.pointer (some v)]] .sl R w := by
  apply zf1h_call
  apply zf2u_call
  refine AppendSeq_ok (by omega) h fun u ks w hp h => ?_
  have hkl := hp.length_eq
  rw [List.length_map] at hkl
  refine Sort_perm (by omega) h fun ys w hp2 h => ?_
  exact hR u ys w (hp2.trans hp) h
theorem fnd_at {L : List Fl} {nm : Bs} {j : Nat} {v : Option Addr} (h : Fnd (keysOf L) nm (some (j, v))) : ∃ q, L[j]? = some q ∧ q.1 = nm ∧ v = some q.2.1 := by
  obtain ⟨h1, _⟩ := h
  simp only [keysOf, List.getElem?_map, Option.map_eq_some_iff] at h1
  obtain ⟨q, hq, he⟩ := h1
  have he := Prod.mk.inj he
  exact ⟨q, hq, he.1, he.2.symm⟩
theorem Files_ok {R : Sl → World → Prop} {d : Addr} {fs : List DF} {room fuse : Int} {off : Bool} (hf : fs.length ≤ 12) (h : SH o (diskA d fs room fuse off :: Γ) w)
    (hR : ∀ l fl w', (fl.map (·.1)).Perm (fs.map (·.1)) → SH o (slO l ztn zk9 fl :: diskA d fs room fuse off :: Γ) w' → R l w') : mcall P n_zf19 [(.pointer (some d))] .sl R w := by
  apply zf19_call
  obtain ⟨m, L, e1, e2, h⟩ := disk_open.1 h
  have hL : L.length = fs.length := by rw [← e1]; simp
  have hkn : (keysOf L).map (·.1) = fs.map (·.1) := by rw [← e1]; simp [keysOf, dfOf]
  refine meq_ptr_nil ?_
  refine mif_ok (fun g => by cases g) (fun _ => ?_)
  unfold zf19_1 zf19_3
  refine mnil_ok ?_
  refine ld_fld0 (a := d) h ?_
  apply zf1i_call
  refine bx_ok h fun v w h => ?_
  have h : SH o (vr v ztk .m (some m) :: mpA m .s .p (keysOf L) :: vr d ztl zk7 (some m, room, fuse, off, ()) :: (L.map fileA ++ Γ)) w := h.perm ((List.Perm.refl _).cons _ |>.trans (List.Perm.cons _ (List.Perm.swap ..)))
  refine Sorted_ok (by simp [keysOf]; omega) h fun u ks w hp h => ?_
  have hul := h.len (s := u)
  have hkl := hp.length_eq
  rw [hkn] at hp
  simp only [keysOf, List.length_map] at hkl
  unfold zf19_4
  have h := h.nilS ztn zk9
  refine loop_ok (fun (i : Nat) t w => ∃ l fl, t = (l, (i : Int), ()) ∧ i ≤ ks.length ∧ fl.map (·.1) = ks.take i ∧ SH o (slO l ztn zk9 fl :: slO u zt4 .s ks :: mpA m .s .p (keysOf L) :: vr d ztl zk7 (some m, room, fuse, off, ()) :: (L.map fileA ++ Γ)) w) (fun i => ks.length - i) 0 ⟨_, [], rfl, by omega, rfl, h⟩ ?_
  clear h
  rintro i _ w cont ⟨l, fl, rfl, hi, hfl, h⟩ hc
  unfold zf19_5
  dsimp only
  refine mif_ok (fun g => ?_) (fun g => ?_)
  · have hlt : i < ks.length := by simp at g; omega
    refine ixa_ok (s := u) h (by omega) (by omega) fun e ea => ?_
    refine ld_el ea h (List.getElem?_eq_getElem hlt) ?_
    refine mnil_ok ?_
    refine ld_fld0 (a := d) h ?_
    refine lku_ok h (fun j v hfn => ?_) (fun hfn => ?_)
    · obtain ⟨q, hq, hqn, rfl⟩ := fnd_at hfn
      refine mdraw_ok h fun w h => ?_
      have hpm : (slO l ztn zk9 fl :: slO u zt4 .s ks :: mpA m .s .p (keysOf L) :: vr d ztl zk7 (some m, room, fuse, off, ()) :: (L.map fileA ++ Γ)).Perm
          (slO l ztn zk9 fl :: slO u zt4 .s ks :: mpA m .s .p (keysOf L) :: vr d ztl zk7 (some m, room, fuse, off, ()) :: (fileA q :: (L.eraseIdx j).map fileA ++ Γ)) :=
        List.Perm.cons _ (List.Perm.cons _ (List.Perm.cons _ (List.Perm.cons _ ((map_pick fileA hq).append_right Γ))))
      have h := h.perm hpm
      have h : SH o (slO l ztn zk9 fl :: slO u zt4 .s ks :: mpA m .s .p (keysOf L) :: vr d ztl zk7 (some m, room, fuse, off, ()) :: vr q.2.1 ztr zka (q.2.2.1, q.2.2.2, ()) :: ((L.eraseIdx j).map fileA ++ Γ)) w := h
      refine mnil_ok ?_
      refine ld_fld0 (a := q.2.1) h ?_
      refine mnil_ok ?_
      refine ld_fld (a := q.2.1) h ?_
      refine bsl_ok h fun x w h => ?_
      have hfll : fl.length ≤ 12 := by
        have := congrArg List.length hfl
        rw [List.length_map, List.length_take] at this; omega
      refine app_ok h (by simp; omega) (fun y _ => okV_plain rfl y) fun l2 w h => ?_
      rw [w64_of (by omega) (by omega)]
      have h := h.swap.drop
      refine hc (i + 1) _ w (by omega) ⟨l2, _, rfl, hlt, ?_, h.perm ((List.Perm.cons _ (List.Perm.cons _ (List.Perm.cons _ (List.Perm.cons _ ((map_pick fileA hq).append_right Γ)))))).symm⟩
      rw [List.map_append, hfl, List.take_add_one, List.getElem?_eq_getElem hlt]; rfl
    · exfalso
      have hm : ks[i] ∈ fs.map (·.1) := hp.mem_iff.1 (List.getElem_mem hlt)
      rw [← hkn] at hm
      obtain ⟨q, hq, he⟩ := List.mem_map.1 hm
      exact hfn q hq (by simpa using he)
  · have hie : i = ks.length := by simp at g; omega
    subst hie
    rw [List.take_length] at hfl
    unfold zf19_2
    refine hR l fl w (by rw [hfl]; exact hp) ?_
    have h := h.swap.drop
    have h : SH o (vr d ztl zk7 (some m, room, fuse, off, ()) :: mpA m .s .p (keysOf L) :: (L.map fileA ++ (slO l ztn zk9 fl :: Γ))) w := h.perm (by
      exact (List.Perm.swap _ _ _).trans ((List.Perm.cons _ (List.Perm.swap _ _ _)).trans ((List.Perm.swap _ _ _).trans (List.Perm.cons _ (List.Perm.cons _ List.perm_middle.symm)))))
    exact (disk_open.2 ⟨m, L, e1, e2, h⟩).swap
end
end Go.Proofs.YtpjhflboedicpaaGreatDoor
