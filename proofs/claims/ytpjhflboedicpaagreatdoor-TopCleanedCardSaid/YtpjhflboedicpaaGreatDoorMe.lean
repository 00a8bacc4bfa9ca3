/- Contracts of functions of the program, proved on their short texts. No condition. -/
import Derived.Test.YtpjhflboedicpaaGreatDoorMd
import Derived.Lib.Overlaps
set_option linter.unusedVariables false
set_option linter.unusedSimpArgs false
namespace Go.Proofs.YtpjhflboedicpaaGreatDoor
open Go Go.W
set_option maxRecDepth 100000
section
variable {o : Fix} {Γ Δ : List Assn} {w : World}
theorem CloneC_ok {R : Sl → World → Prop} {s : Sl} {xs : List zT6} (h : SH o Γ w) [hr : RdS s zk6 xs Γ] (hb : xs.length ≤ 274877906944) (hR : ∀ r w', SH o (slO r zth zk6 xs :: Γ) w' → R r w') : mcall P n_zfr [Sl.v s] .sl R w := by
  apply zfr_call
  obtain ⟨f1, f2, f3⟩ := h.rd (s := s)
  refine meq_sl_nil ?_
  refine mif_ok (fun g => ?_) (fun g => ?_)
  · have hx : xs = [] := by
      rcases f3 with f3 | ⟨b, pre, post, e, fr, e1, _⟩
      · exact List.length_eq_zero_iff.1 (by omega)
      · rw [e1] at g; cases g
    subst hx
    exact hR _ w (h.nilS zth zk6)
  · refine bsl_ok h fun x w h => ?_
    refine app_ok (k := zk6) (ys := xs) h (by simpa using hb) (fun y _ => okV_plain rfl y) fun r w h => ?_
    exact hR r w h
theorem objs_ne {b1 b2 : Nat} {x y : Obj} (h : SH o (objA b1 x :: objA b2 y :: Γ) w) : b1 ≠ b2 := by
  obtain ⟨π, hh, h1, h2, h3, h4, h5, f, r, hd, rfl, rfl, f2, r2, hd2, rfl, rfl, _⟩ := h
  rintro rfl
  rcases hd b1 with e | e
  · simp [Frag.one] at e
  · simp [Frag.add, Frag.one] at e
theorem overlaps_no {R : Bool → World → Prop} {b1 b2 o1 o2 l1 c1 l2 c2 : Nat} {V1 V2 : List Value} {t1 t2 : TypeId} (h : SH o (objA b1 (cellsO V1 t1) :: objA b2 (cellsO V2 t2) :: Γ) w) (hV : V2 ≠ []) (hR : R false w) :
    mcall P n_zf3l [Sl.v ⟨some ⟨b1, o1, none⟩, l1, c1⟩, Sl.v ⟨some ⟨b2, o2, none⟩, l2, c2⟩] .b R w := by
  have hne := objs_ne h
  have hh1 := h.heap
  have hh2 := h.swap.heap
  refine .ext false w ?_ hR
  rw [run_callFunc_extern Tryz.func135 (by kernel_rfl) (by kernel_rfl) (by kernel_rfl) (e := Extern.SlicesOverlaps.overlaps #[zt8, zt8] #[4]) (by kernel_rfl)]
  have hlen : V2.length ≠ 0 := fun e => hV (List.length_eq_zero_iff.1 e)
  have := Lib.run_overlaps_apart (P := P) w zt8 4 zth (by kernel_rfl) (wd zk6) (fun w => by kernel_rfl) ⟨b1, o1, none⟩ ⟨b2, o2, none⟩ l1 c1 l2 c2 hne t1 t2 V1.length V2.length
    (by simp [World.shape?, hh1]) (by simp [World.shape?, hh2]) hlen (by simp [World.frozen?, hh1]) (by simp [World.frozen?, hh1])
  show ((Sem.run P (Extern.SlicesOverlaps.overlaps #[zt8, zt8] #[4] #[Value.slice (some ⟨b1, o1, none⟩) l1 c1, Value.slice (some ⟨b2, o2, none⟩) l2 c2]) w).andThen _) = _
  rw [this]
  rfl
theorem len_put {V vs : List Value} {n : Nat} (h : n + vs.length ≤ V.length) : (V.take n ++ vs ++ V.drop (n + vs.length)).length = V.length := by
  simp only [List.length_append, List.length_take, List.length_drop]; omega
theorem ins_raw {P B post Y : List Value} {n d : Nat} (hP : P.length = n) (hY : Y.length = d) (hd : d ≤ post.length) :
    (((P ++ B ++ post).take (n + d) ++ B ++ (P ++ B ++ post).drop (n + d + B.length)).take n ++ Y ++ ((P ++ B ++ post).take (n + d) ++ B ++ (P ++ B ++ post).drop (n + d + B.length)).drop (n + d)) = P ++ (Y ++ B) ++ post.drop d := by
  have e1 : (P ++ B ++ post).take (n + d) = P ++ (B ++ post).take d := by
    rw [List.append_assoc, List.take_append, List.take_of_length_le (by omega)]
    congr 2; omega
  have e2 : (P ++ B ++ post).drop (n + d + B.length) = post.drop d := by
    have : n + d + B.length = (P ++ B).length + d := by simp; omega
    rw [this, List.drop_length_add_append]
  have hX : ((B ++ post).take d).length = d := by simp; omega
  rw [e1, e2]
  have e3 : (P ++ (B ++ post).take d ++ B ++ post.drop d).take n = P := by
    rw [List.append_assoc, List.append_assoc]; exact List.take_left' hP
  have e4 : (P ++ (B ++ post).take d ++ B ++ post.drop d).drop (n + d) = B ++ post.drop d := by
    rw [List.append_assoc]; exact List.drop_left' (by simp only [List.length_append, hX]; omega)
  rw [e3, e4]
  simp
theorem Insert_one {R : Sl → World → Prop} {s u : Sl} {xs : List zT6} {y : zT6} {i : Nat} (hi : i ≤ xs.length) (hb : xs.length ≤ 137438953472) (h : SH o (slO s zth zk6 xs :: slO u zth zk6 [y] :: Γ) w)
    (hR : ∀ r w', SH o (slO r zth zk6 (xs.take i ++ y :: xs.drop i) :: Γ) w' → R r w') : mcall P n_zf2a [Sl.v s, .int .i64 (i : Int), Sl.v u] .sl R w := by
  apply zf2a_call
  obtain ⟨f1, f2⟩ := slO_facts h
  obtain ⟨u1, u2⟩ := slO_facts h.swap
  simp only [List.length_cons, List.length_nil] at u1
  refine slc_ok (k := zk6) (by simp) (by simp; omega) (by simp; omega) ?_
  refine mif_ok (fun g => ?_) (fun _ => ?_)
  · simp at g; omega
  refine mif_ok (fun g => ?_) (fun g => ?_)
  · have hie : i = xs.length := by simp at g; omega
    subst hie
    refine app_ok (k := zk6) (ys := [y]) h (by simp; omega) (fun y _ => okV_plain rfl y) fun r w h => ?_
    refine hR r w ?_
    rw [List.take_length, List.drop_length]
    exact h.to
  have hlt : i < xs.length := by simp at g; omega
  rw [w64_of (x := (s.len : Int) + (u.len : Int)) (by omega) (by omega)]
  refine mif_ok (fun g => ?_) (fun g => ?_)
  · -- in a new place
    have hcap : s.cap = s.len := by simp at g; omega
    refine slc_ok (k := zk6) (by simp) (by simp) (by simp; omega) ?_
    simp only [Option.getD_some, Option.getD_none, Int.toNat_natCast, Int.toNat_zero]
    haveI r1 : RdS (cut s zk6 0 i) zk6 ((xs.drop 0).take (i - 0)) (slO s zth zk6 xs :: slO u zth zk6 [y] :: Γ) := RdS.cut inferInstance (by omega) (by omega)
    have em : w64 ((s.len : Int) + (u.len : Int) - (i : Int)) = ((s.len + 1 - i : Nat) : Int) := by rw [w64_of (by omega) (by omega)]; omega
    rw [em]
    refine app_make (k := zk6) (m := s.len + 1 - i) rfl h (by kernel_rfl) (by omega) (by simp only [cut]; omega) (by simp only [cut]; omega) fun r w h => ?_
    simp only [List.drop_zero, Nat.sub_zero] at h
    obtain ⟨q1, q2⟩ := slO_facts h
    simp only [List.length_append, List.length_take, List.length_replicate, Nat.min_eq_left hi] at q1
    refine slc_ok (k := zk6) (by simp) (by simp; omega) (by simp; omega) ?_
    simp only [Option.getD_some, Option.getD_none, Int.toNat_natCast]
    refine copy_own (s := r) (u := u) (ys := [y]) (i := i) h (fun y _ => okV_plain rfl y) (by simp; omega) fun w h => ?_
    refine mdraw_ok h fun w h => ?_
    rw [w64_of (x := (i : Int) + (u.len : Int)) (by omega) (by omega)]
    refine slc_ok (k := zk6) (by show (0 : Int) ≤ (i : Int) + (u.len : Int); omega) (by simp; omega) (by simp; omega) ?_
    refine slc_ok (k := zk6) (by simp) (by simp; omega) (by simp; omega) ?_
    have e2 : ((i : Int) + (u.len : Int)).toNat = i + 1 := by omega
    simp only [Option.getD_some, Option.getD_none, Int.toNat_natCast, e2]
    have hl1 : (xs.take i).length = i := by simp; omega
    have h : SH o (slO r zth zk6 (xs.take i ++ [y] ++ List.replicate (s.len - i) (0, 0, (0, 0, 0, 0, (0, 0, 0, 0, ()), 0, 0, ()), ())) :: slO s zth zk6 xs :: slO u zth zk6 [y] :: Γ) w := by
      have e3 : ((xs.take i ++ List.replicate (s.len + 1 - i) (0, 0, (0, 0, 0, 0, (0, 0, 0, 0, ()), 0, 0, ()), ())).take i ++ [y] ++ (xs.take i ++ List.replicate (s.len + 1 - i) (0, 0, (0, 0, 0, 0, (0, 0, 0, 0, ()), 0, 0, ()), ())).drop (i + [y].length)) =
          (xs.take i ++ [y] ++ List.replicate (s.len - i) (0, 0, (0, 0, 0, 0, (0, 0, 0, 0, ()), 0, 0, ()), ()) : List zT6) := by
        rw [List.take_left' hl1, List.drop_append, hl1, List.drop_eq_nil_of_le (by rw [hl1]; simp), List.nil_append, List.drop_replicate]
        congr 2
        simp; omega
      rw [e3] at h
      exact h
    haveI r2 : RdS (cut s zk6 i s.len) zk6 ((xs.drop i).take (s.len - i)) (slO r zth zk6 (xs.take i ++ [y] ++ List.replicate (s.len - i) (0, 0, (0, 0, 0, 0, (0, 0, 0, 0, ()), 0, 0, ()), ())) :: slO s zth zk6 xs :: slO u zth zk6 [y] :: Γ) :=
      RdS.cut inferInstance (by omega) (by omega)
    have hdl : ((xs.drop i).take (s.len - i)) = xs.drop i := List.take_of_length_le (by simp; omega)
    rw [hdl] at r2
    refine copy_own (k := zk6) (s := r) (u := cut s zk6 i s.len) (ys := xs.drop i) (i := i + 1) h (fun y _ => okV_plain rfl y) (by simp; omega) fun w h => ?_
    refine hR r w ?_
    have e4 : ((xs.take i ++ [y] ++ List.replicate (s.len - i) (0, 0, (0, 0, 0, 0, (0, 0, 0, 0, ()), 0, 0, ()), ())).take (i + 1) ++ xs.drop i ++ (xs.take i ++ [y] ++ List.replicate (s.len - i) (0, 0, (0, 0, 0, 0, (0, 0, 0, 0, ()), 0, 0, ()), ())).drop (i + 1 + (xs.drop i).length)) =
        (xs.take i ++ y :: xs.drop i : List zT6) := by
      have hl2 : (xs.take i ++ [y]).length = i + 1 := by simp; omega
      have hnil : (xs.take i ++ [y] ++ List.replicate (s.len - i) (0, 0, (0, 0, 0, 0, (0, 0, 0, 0, ()), 0, 0, ()), ()) : List zT6).drop (i + 1 + (xs.drop i).length) = [] :=
        List.drop_eq_nil_of_le (by simp only [List.length_append, List.length_take, List.length_drop, List.length_replicate, List.length_cons, List.length_nil]; omega)
      rw [List.take_left' hl2, hnil, List.append_nil]
      simp
    rw [e4] at h
    exact h.to
  · -- in its place
    have hcap : s.len + 1 ≤ s.cap := by simp at g; omega
    obtain ⟨sa, sl, sc⟩ := s
    obtain ⟨ua, ul, uc⟩ := u
    simp only at f1 f2 u1 u2 hcap
    subst f1
    have hu1 : ul = 1 := by omega
    subst hu1
    obtain ⟨b, pre, post, e1, e2, _, _, h3⟩ := slO_open h (by show 0 < sc; omega)
    obtain ⟨b', pre', post', e1', _, _, _, h4⟩ := slO_open h3.swap (by show 0 < uc; omega)
    simp only at e1 e2 e1'
    subst e1; subst e1'
    have hr := rows_len zk6 xs
    have hw : wd zk6 = 12 := by decide
    rw [hw] at hr e2
    have c1 : (((xs.length : Int) + ((1 : Nat) : Int)).toNat) = xs.length + 1 := by omega
    have c2 : (((i : Int) + ((1 : Nat) : Int)).toNat) = i + 1 := by omega
    have n0 : ¬ sc = 0 := by omega
    have n1 : ¬ sc = i := by omega
    have n2 : ¬ sc = i + 1 := by omega
    rw [w64_of (x := (i : Int) + ((1 : Nat) : Int)) (by omega) (by omega)]
    refine slc_ok (k := zk6) (by simp) (by simp; omega) (by simp; omega) ?_
    simp only [Option.getD_some, Option.getD_none, Int.toNat_zero, c1]
    have x10 : cut ⟨some ⟨b, pre.length, none⟩, xs.length, sc⟩ zk6 0 (xs.length + 1) = ⟨some ⟨b, pre.length, none⟩, xs.length + 1, sc⟩ := by simp [cut, n0, Addr.add]
    rw [x10]
    have x11 : cut ⟨some ⟨b, pre.length, none⟩, xs.length + 1, sc⟩ zk6 (i + 1) (xs.length + 1) = ⟨some ⟨b, pre.length + (i + 1) * 12, none⟩, xs.length - i, sc - (i + 1)⟩ := by
      simp only [cut, if_neg n2, Option.map_some, Addr.add_lit, hw, Sl.mk.injEq, true_and, and_true]; omega
    have x14 : cut ⟨some ⟨b, pre.length, none⟩, xs.length + 1, sc⟩ zk6 i (xs.length + 1) = ⟨some ⟨b, pre.length + i * 12, none⟩, xs.length + 1 - i, sc - i⟩ := by
      simp only [cut, if_neg n1, Option.map_some, Addr.add_lit, hw]
    refine slc_ok (k := zk6) (by show (0 : Int) ≤ (i : Int) + ((1 : Nat) : Int); omega) (by simp; omega) (by simp; omega) ?_
    simp only [Option.getD_some, Option.getD_none, Int.toNat_natCast, c2]
    rw [x11]
    refine overlaps_no h4 (by intro e; have := congrArg List.length e; simp [hr] at this; omega) ?_
    refine mif_ok (fun _ => ?_) (fun g => ?_)
    · refine mdraw_ok h fun w h => ?_
      refine slc_ok (k := zk6) (by show (0 : Int) ≤ (i : Int) + ((1 : Nat) : Int); omega) (by simp; omega) (by simp; omega) ?_
      simp only [Option.getD_some, Option.getD_none, Int.toNat_natCast, c2]
      rw [x11]
      refine slc_ok (k := zk6) (by simp) (by simp; omega) (by simp; omega) ?_
      simp only [Option.getD_some, Option.getD_none, Int.toNat_natCast]
      rw [x14]
      obtain ⟨b2, pre2, post2, e3, e4, _, _, h5⟩ := slO_open h (by show 0 < sc; omega)
      simp only [Option.some.injEq, Addr.mk.injEq, and_true] at e3
      obtain ⟨rfl, hpl⟩ := e3
      rw [hpl]
      simp only [hw] at e4
      have l1 : (rows zk6 (xs.take i)).length = i * 12 := by rw [rows_len, List.length_take, Nat.min_eq_left hi, hw]
      have l2 : (rows zk6 (xs.drop i)).length = (xs.length - i) * 12 := by rw [rows_len, List.length_drop, hw]
      have hsp : rows zk6 xs = rows zk6 (xs.take i) ++ rows zk6 (xs.drop i) := by rw [← rows_append, List.take_append_drop]
      have hV : pre2 ++ rows zk6 xs ++ post2 = (pre2 ++ rows zk6 (xs.take i)) ++ rows zk6 (xs.drop i) ++ post2 := by rw [hsp]; simp
      have hP : (pre2 ++ rows zk6 (xs.take i)).length = pre2.length + i * 12 := by simp [l1]
      have hpost : 12 ≤ post2.length := by have : (sc - xs.length) * 12 ≥ 1 * 12 := Nat.mul_le_mul_right 12 (by omega); omega
      have hlenV : (pre2 ++ rows zk6 xs ++ post2).length = pre2.length + xs.length * 12 + post2.length := by simp [hr]; omega
      have hD : ((pre2 ++ rows zk6 xs ++ post2).drop (pre2.length + i * 12)).take ((xs.length - i) * wd zk6) = rows zk6 (xs.drop i) := by
        rw [hV, List.append_assoc (pre2 ++ _), List.drop_left' hP, hw]; exact List.take_left' l2
      refine copy_raw (k := zk6) (n := xs.length - i) (m := xs.length + 1 - i) (vs := rows zk6 (xs.drop i)) h5 (by omega) (fun w => by simp [Builtin.lenOf]) (firstCells_part h5.heap hD (by rw [l2, hw])) (by rw [hlenV, l2]; omega) (rows_ok fun y _ => okV_plain rfl y) fun w h5 => ?_
      refine slc_ok (k := zk6) (by simp) (by simp; omega) (by simp; omega) ?_
      simp only [Option.getD_some, Option.getD_none, Int.toNat_natCast]
      rw [hpl] at x14
      rw [x14]
      have hsrc := src_sl (P := P) (te' := zth) (tx := zt8) (k := zk6) (ys := [y]) (u := ⟨some ⟨b', pre'.length, none⟩, 1, uc⟩) h5 (by kernel_rfl) (fun y _ => okV_plain rfl y)
      have ly : (rows zk6 [y]).length = 12 := by rw [rows_len, hw]; rfl
      have hV1 : ((pre2 ++ rows zk6 xs ++ post2).take (pre2.length + (i + 1) * 12) ++ rows zk6 (xs.drop i) ++ (pre2 ++ rows zk6 xs ++ post2).drop (pre2.length + (i + 1) * 12 + (rows zk6 (xs.drop i)).length)).length = pre2.length + xs.length * 12 + post2.length := by
        have hq : (i + 1) * 12 + (xs.length - i) * 12 = xs.length * 12 + 12 := by omega
        rw [len_put (by rw [hlenV, l2]; omega), hlenV]
      have hq2 : i * 12 + 12 ≤ xs.length * 12 := by omega
      refine copy_raw (k := zk6) (n := 1) (m := 1) (dl := xs.length + 1 - i) (vs := rows zk6 [y]) h5 (by rw [Nat.min_eq_left (by omega)]) hsrc.len hsrc.cells (by rw [hV1, ly]; omega) hsrc.one fun w h5 => ?_
      rw [ly] at h5
      have e12 : pre2.length + (i + 1) * 12 = pre2.length + i * 12 + 12 := by omega
      rw [e12, hV, ins_raw hP ly hpost, ← rows_append, List.append_assoc pre2, ← rows_append] at h5
      have hlen3 : (xs.take i ++ ([y] ++ xs.drop i)).length = xs.length + 1 := by simp; omega
      have := slO_close (k := zk6) (c := sc) h5 (by rw [hlen3]; omega) (by
        rw [hlen3, hw]; simp only [List.length_drop]
        have : (sc - (xs.length + 1)) * 12 + 12 = (sc - xs.length) * 12 := by omega
        omega)
      rw [hlen3] at this
      refine hR _ w ?_
      have e9 : xs.take i ++ ([y] ++ xs.drop i) = xs.take i ++ y :: xs.drop i := rfl
      rw [e9] at this
      exact this.to
    · cases g
end
end Go.Proofs.YtpjhflboedicpaaGreatDoor
namespace Go.Proofs.YtpjhflboedicpaaGreatDoor
open Go Go.W
set_option maxRecDepth 100000
section
variable {o : Fix} {Γ Δ : List Assn} {w : World}
theorem cut_front {s : Sl} {k : Kd} {n : Nat} {te : TypeId} {xs : List (KT k)} (h : SH o (slO s te k xs :: Γ) w) : cut s k 0 n = ⟨s.a, n, s.cap⟩ := by
  obtain ⟨sa, sl, sc⟩ := s
  cases sa with
  | none => simp [cut]
  | some a => simp [cut, Addr.add]
theorem Delete_one {R : Sl → World → Prop} {s : Sl} {xs : List zT6} {i : Nat} (hi : i < xs.length) (hb : xs.length ≤ 137438953472) (h : SH o (slO s zth zk6 xs :: Γ) w)
    (hR : ∀ r w', SH o (slO r zth zk6 (xs.take i ++ xs.drop (i + 1)) :: Γ) w' → R r w') : mcall P n_zf31 [Sl.v s, .int .i64 (i : Int), .int .i64 ((i : Int) + 1)] .sl R w := by
  apply zf31_call
  obtain ⟨f1, f2⟩ := slO_facts h
  have hsz : (sizeOf zth).run P w = .ok (wd zk6) w := by kernel_rfl
  have hu : P.underlying zt8 = some (.slice zth) := by kernel_rfl
  refine ⟨⟨if s.len = i then s.a else s.a.map fun x => x.add (i * wd zk6), 1, s.len - i⟩, ?_, ?_⟩
  · obtain ⟨sa, sl, sc⟩ := s
    simp only at f1 f2
    have e1 : ((i : Int) + 1).toNat = i + 1 := by omega
    have hw : wd zk6 = 12 := by decide
    have b1 : (Instr.sliceBound (.int .i64 (sl : Int)) sc .slice3Acap).run P w = .ok sl w := by rw [run_sliceBound w .i64 (sl : Int) sc .slice3Acap (by omega) (by omega)]; rfl
    have b2 : (Instr.sliceBound (.int .i64 ((i : Int) + 1)) sl .slice3B).run P w = .ok (i + 1) w := by rw [run_sliceBound w .i64 ((i : Int) + 1) sl .slice3B (by omega) (by omega), e1]
    have b3 : (Instr.sliceBound (.int .i64 (i : Int)) (i + 1) .slice3C).run P w = .ok i w := by rw [run_sliceBound w .i64 (i : Int) (i + 1) .slice3C (by omega) (by omega)]; rfl
    rw [hw] at hsz
    simp [Instr.sliceAt, run_underlying hu, Instr.slice, Instr.sliceBounds, b1, b2, b3, hsz, hw, KV]
  refine mif_ok (fun g => ?_) (fun _ => ?_)
  · simp at g; omega
  refine mdraw_ok h fun w h => ?_
  refine slc_ok (k := zk6) (by simp) (by simp) (by simp <;> omega) ?_
  simp only [Option.getD_some, Option.getD_none, Int.toNat_natCast, Int.toNat_zero]
  rw [cut_front h]
  have e1 : ((i : Int) + 1).toNat = i + 1 := by omega
  refine slc_ok (k := zk6) (by show (0 : Int) ≤ (i : Int) + 1; omega) (by simp <;> omega) (by simp <;> omega) ?_
  simp only [Option.getD_some, Option.getD_none, Int.toNat_natCast, e1]
  haveI r1 : RdS (cut s zk6 (i + 1) s.len) zk6 ((xs.drop (i + 1)).take (s.len - (i + 1))) (slO s zth zk6 xs :: Γ) := RdS.cut inferInstance (by omega) (by omega)
  have hdl : ((xs.drop (i + 1)).take (s.len - (i + 1))) = xs.drop (i + 1) := List.take_of_length_le (by simp <;> omega)
  rw [hdl] at r1
  have hl : (xs.drop (i + 1)).length = s.len - (i + 1) := by simp; omega
  refine app_own (k := zk6) (s := s) (u := cut s zk6 (i + 1) s.len) (ys := xs.drop (i + 1)) (i := i) h (fun y _ => okV_plain rfl y) (by rw [hl]; omega) fun w h => ?_
  have e2 : i + (xs.drop (i + 1)).length = s.len - 1 := by omega
  rw [e2] at h ⊢
  refine slc_ok (k := zk6) (by simp) (by simp <;> omega) (by simp <;> omega) ?_
  simp only [Option.getD_some, Option.getD_none, Int.toNat_natCast]
  have e3 : cut ⟨s.a, s.len - 1, s.cap⟩ zk6 (s.len - 1) s.len = cut s zk6 (s.len - 1) s.len := rfl
  rw [e3]
  refine clear_tail (k := zk6) rfl h (by omega) fun w h => ?_
  refine hR _ w ?_
  have e4 : (xs.take i ++ xs.drop (i + 1) ++ xs.drop (s.len - 1)).take (s.len - 1) = xs.take i ++ xs.drop (i + 1) := List.take_left' (by simp <;> omega)
  rw [e4] at h
  exact h
end
end Go.Proofs.YtpjhflboedicpaaGreatDoor
namespace Go.Proofs.YtpjhflboedicpaaGreatDoor
open Go Go.W
set_option maxRecDepth 100000
section
variable {o : Fix} {Γ Δ : List Assn} {w : World}
theorem IndexFunc_exact {R : Int → World → Prop} {s : Sl} {xs : List Int} {f : Value} {p : Int → Bool} (h : SH o (slO s zt1 I xs :: Γ) w) (hl : xs.length ≤ 1099511627776)
    (hf : ∀ x w (K : Bool → World → Prop), SH o (slO s zt1 I xs :: Γ) w → (∀ w', SH o (slO s zt1 I xs :: Γ) w' → K (p x) w') → mdyn P f [.int .i64 x] .b K w)
    (h1 : ∀ (i : Nat) w', i < xs.length → (∀ x ∈ xs.take i, p x = false) → (∃ x, xs[i]? = some x ∧ p x = true) → SH o (slO s zt1 I xs :: Γ) w' → R (i : Int) w')
    (h0 : ∀ w', (∀ x ∈ xs, p x = false) → SH o (slO s zt1 I xs :: Γ) w' → R (-1) w') : mcall P n_zf28 [(Sl.v s), f] I R w := by
  apply zf28_call
  have hlen := h.len (s := s)
  unfold zf28_0 zf28_1 zf28_3 zf28_4
  refine loop_ok (fun (i : Nat) t w => t = ((i : Int), ()) ∧ i ≤ xs.length ∧ (∀ x ∈ xs.take i, p x = false) ∧ SH o (slO s zt1 I xs :: Γ) w) (fun i => xs.length - i) 0 ⟨rfl, by omega, by simp, h⟩ ?_
  clear h
  rintro i _ w cont ⟨rfl, hi, ha, h⟩ hc
  dsimp only
  refine mif_ok (fun g1 => ?_) (fun g1 => ?_)
  · have hlt : i < xs.length := by simp at g1; omega
    refine ixa_ok (s := s) h (by omega) (by omega) fun e ea => ?_
    refine ld_el ea h (List.getElem?_eq_getElem hlt) ?_
    refine hf _ w _ h fun w h => ?_
    refine mif_ok (fun g2 => ?_) (fun g2 => ?_)
    · exact h1 i w hlt ha ⟨_, List.getElem?_eq_getElem hlt, g2⟩ h
    · rw [w64_of (by omega) (by omega)]
      refine hc (i + 1) _ w (by omega) ⟨rfl, hlt, fun x hx => ?_, h⟩
      rw [List.take_add_one, List.getElem?_eq_getElem hlt] at hx
      rcases List.mem_append.1 hx with hx | hx
      · exact ha x hx
      · simp at hx; rw [hx]; exact g2
  · have hi' : i = xs.length := by simp at g1; omega
    subst hi'
    rw [List.take_length] at ha
    exact h0 w ha h
theorem DeleteFunc_int_ok {R : Sl → World → Prop} {s : Sl} {xs : List Int} {f : Value} {p : Int → Bool} (h : SH o (slO s zt1 I xs :: Γ) w) (hl : xs.length ≤ 1099511627776)
    (hf : ∀ ys x w (K : Bool → World → Prop), SH o (slO s zt1 I ys :: Γ) w → (∀ w', SH o (slO s zt1 I ys :: Γ) w' → K (p x) w') → mdyn P f [.int .i64 x] .b K w)
    (hR : ∀ r w', SH o (slO r zt1 I (xs.filter fun x => !p x) :: Γ) w' → R r w') : mcall P n_zfu [(Sl.v s), f] .sl R w := by
  apply zfu_call
  obtain ⟨f1, f2⟩ := slO_facts h
  refine IndexFunc_exact (p := p) h hl (hf xs) (fun i w hi hpre hx h => ?_) (fun w hall h => ?_)
  · refine mif_ok (fun g => ?_) (fun _ => ?_)
    · simp at g <;> omega
    unfold zfu_1 zfu_3 zfu_4
    rw [w64_of (x := (i : Int) + 1) (by omega) (by omega)]
    obtain ⟨x0, hx0, hp0⟩ := hx
    have hfil : (xs.take (i + 1)).filter (fun x => !p x) = xs.take i := by
      rw [List.take_add_one, hx0, List.filter_append]
      have e1 : (xs.take i).filter (fun x => !p x) = xs.take i := List.filter_eq_self.2 fun x hx => by simp [hpre x hx]
      rw [e1]; simp [hp0]
    refine loop_ok (fun (q : Nat × Nat × List Int) t w => t = ((q.1 : Int), (q.2.1 : Int), ()) ∧ q.1 ≤ q.2.1 ∧ q.2.1 ≤ xs.length ∧ q.2.2.length = xs.length ∧ q.2.2.take q.1 = (xs.take q.2.1).filter (fun x => !p x) ∧ q.2.2.drop q.2.1 = xs.drop q.2.1 ∧ SH o (slO s zt1 I q.2.2 :: Γ) w)
      (fun q => xs.length - q.2.1) (i, i + 1, xs) ⟨rfl, by simp, by simp only; omega, rfl, hfil.symm, rfl, h⟩ ?_
    clear h
    rintro ⟨a, j, ys⟩ _ w cont ⟨rfl, haj, hj, hly, ht, hd, h⟩ hc
    simp only at haj hj hly ht hd h hc
    unfold zfu_5
    dsimp only
    refine mif_ok (fun g => ?_) (fun g => ?_)
    · have hlt : j < xs.length := by simp at g; omega
      have hyj : ys[j]? = some xs[j] := by
        have := congrArg (·[0]?) hd
        simp only [List.getElem?_drop, Nat.add_zero] at this
        rw [this, List.getElem?_eq_getElem hlt]
      have hds : ys.drop (j + 1) = xs.drop (j + 1) := by
        have := congrArg (List.drop 1) hd
        simpa [List.drop_drop, Nat.add_comm] using this
      refine ixa_ok (s := s) h (by omega) (by omega) fun e ea => ?_
      refine ld_el ea h hyj ?_
      refine hf ys _ w _ h fun w h => ?_
      unfold zfu_6
      refine mif_ok (fun g2 => ?_) (fun g2 => ?_)
      · have hp : p xs[j] = false := by simpa using g2
        refine ixa_ok (s := s) h (by omega) (by omega) fun e2 ea2 => ?_
        refine sto_el ea2 h (by simp only [Int.toNat_natCast]; omega) fun w h => ?_
        rw [w64_of (by omega) (by omega), w64_of (by omega) (by omega)]
        simp only [Int.toNat_natCast] at h
        refine hc (a + 1, j + 1, ys.set a xs[j]) _ w (by simp only; omega) ⟨rfl, by simp only; omega, by simp only; omega, by simpa using hly, ?_, ?_, h⟩
        · simp only
          rw [List.take_add_one, List.getElem?_set_self (by omega), List.take_set_of_le (by omega), ht, List.take_add_one (l := xs), List.getElem?_eq_getElem hlt, List.filter_append]
          simp [hp]
        · simp only
          rw [List.drop_set_of_lt (by omega), hds]
      · have hp : p xs[j] = true := by simpa using g2
        rw [w64_of (by omega) (by omega)]
        refine hc (a, j + 1, ys) _ w (by simp only; omega) ⟨rfl, by simp only; omega, by simp only; omega, hly, ?_, hds, h⟩
        simp only
        rw [ht, List.take_add_one (l := xs), List.getElem?_eq_getElem hlt, List.filter_append]
        simp [hp]
    · have hje : j = xs.length := by simp at g; omega
      subst hje
      rw [List.take_length] at ht
      unfold zfu_2
      obtain ⟨q1, q2⟩ := slO_facts h
      refine slc_ok (k := I) (by simp) (by simp <;> omega) (by simp <;> omega) ?_
      simp only [Option.getD_some, Option.getD_none, Int.toNat_natCast]
      refine clear_tail (k := I) rfl h (by omega) fun w h => ?_
      refine slc_ok (k := I) (by simp) (by simp) (by simp <;> omega) ?_
      simp only [Option.getD_some, Option.getD_none, Int.toNat_natCast, Int.toNat_zero]
      have e1 : cut s I 0 a = ⟨s.a, a, s.cap⟩ := by
        obtain ⟨sa, sl, sc⟩ := s
        cases sa with
        | none => simp [cut]
        | some a => simp [cut, Addr.add]
      rw [e1, ]
      rw [ht] at h
      exact hR _ w h
  · refine mif_ok (fun _ => ?_) (fun g => ?_)
    · have e : xs.filter (fun x => !p x) = xs := List.filter_eq_self.2 fun x hx => by simp [hall x hx]
      exact hR s w (by rw [e]; exact h)
    · cases g
end
end Go.Proofs.YtpjhflboedicpaaGreatDoor
namespace Go.Proofs.YtpjhflboedicpaaGreatDoor
open Go Go.W
set_option maxRecDepth 100000
section
variable {o : Fix} {Γ Δ : List Assn} {w : World}
theorem IndexFuncC_exact {R : Int → World → Prop} {s : Sl} {xs : List zT6} {f : Value} {p : zT6 → Bool} {G : Nat → List Assn} (h : SH o (slO s zth zk6 xs :: G 0) w) (hl : xs.length ≤ 1099511627776)
    (hf : ∀ (n : Nat) x w (K : Bool → World → Prop), xs[n]? = some x → SH o (slO s zth zk6 xs :: G n) w → (∀ w', SH o (slO s zth zk6 xs :: G (n + 1)) w' → K (p x) w') → mdyn P f [KV zk6 x] .b K w)
    (h1 : ∀ (i : Nat) w', i < xs.length → (∀ x ∈ xs.take i, p x = false) → (∃ x, xs[i]? = some x ∧ p x = true) → SH o (slO s zth zk6 xs :: G (i + 1)) w' → R (i : Int) w')
    (h0 : ∀ w', (∀ x ∈ xs, p x = false) → SH o (slO s zth zk6 xs :: G xs.length) w' → R (-1) w') : mcall P n_zf2c [(Sl.v s), f] I R w := by
  apply zf2c_call
  have hlen := h.len (s := s)
  unfold zf2c_0 zf2c_1 zf2c_3 zf2c_4
  refine loop_ok (fun (i : Nat) t w => t = ((i : Int), ()) ∧ i ≤ xs.length ∧ (∀ x ∈ xs.take i, p x = false) ∧ SH o (slO s zth zk6 xs :: G i) w) (fun i => xs.length - i) 0 ⟨rfl, by omega, by simp, h⟩ ?_
  clear h
  rintro i _ w cont ⟨rfl, hi, ha, h⟩ hc
  dsimp only
  refine mif_ok (fun g1 => ?_) (fun g1 => ?_)
  · have hlt : i < xs.length := by simp at g1; omega
    refine ixa_ok (s := s) h (by omega) (by omega) fun e ea => ?_
    refine ld_el ea h (List.getElem?_eq_getElem hlt) ?_
    refine hf i _ w _ (List.getElem?_eq_getElem hlt) h fun w h => ?_
    refine mif_ok (fun g2 => ?_) (fun g2 => ?_)
    · exact h1 i w hlt ha ⟨_, List.getElem?_eq_getElem hlt, g2⟩ h
    · rw [w64_of (by omega) (by omega)]
      refine hc (i + 1) _ w (by omega) ⟨rfl, hlt, fun x hx => ?_, h⟩
      rw [List.take_add_one, List.getElem?_eq_getElem hlt] at hx
      rcases List.mem_append.1 hx with hx | hx
      · exact ha x hx
      · simp at hx; rw [hx]; exact g2
  · have hi' : i = xs.length := by simp at g1; omega
    subst hi'
    rw [List.take_length] at ha
    exact h0 w ha h
theorem DeleteFuncC_ok {R : Sl → World → Prop} {s : Sl} {xs : List zT6} {f : Value} {p : zT6 → Bool} {G : Nat → List Assn} (h : SH o (slO s zth zk6 xs :: G 0) w) (hl : xs.length ≤ 1099511627776)
    (hf : ∀ (n : Nat) (A : Assn) ys x w (K : Bool → World → Prop), xs[n]? = some x → SH o (slO s zth zk6 ys :: A :: G n) w → (∀ w', SH o (slO s zth zk6 ys :: A :: G (n + 1)) w' → K (p x) w') → mdyn P f [KV zk6 x] .b K w)
    (hR : ∀ r w', SH o (slO r zth zk6 (xs.filter fun x => !p x) :: G xs.length) w' → R r w') : mcall P n_zfy [(Sl.v s), f] .sl R w := by
  apply zfy_call
  obtain ⟨f1, f2⟩ := slO_facts h
  refine IndexFuncC_exact (p := p) h hl (fun n x w K hk h hK => hf n (pureA True) xs x w K hk (SH.pure.2 ⟨trivial, h⟩).swap fun w h => hK w (SH.pure.1 h.swap).2) (fun i w hi hpre hx h => ?_) (fun w hall h => ?_)
  · refine mif_ok (fun g => ?_) (fun _ => ?_)
    · simp at g <;> omega
    unfold zfy_1 zfy_3 zfy_4
    rw [w64_of (x := (i : Int) + 1) (by omega) (by omega)]
    obtain ⟨x0, hx0, hp0⟩ := hx
    have hfil : (xs.take (i + 1)).filter (fun x => !p x) = xs.take i := by
      rw [List.take_add_one, hx0, List.filter_append]
      have e1 : (xs.take i).filter (fun x => !p x) = xs.take i := List.filter_eq_self.2 fun x hx => by simp [hpre x hx]
      rw [e1]; simp [hp0]
    refine loop_ok (fun (q : Nat × Nat × List zT6) t w => t = ((q.1 : Int), (q.2.1 : Int), ()) ∧ q.1 ≤ q.2.1 ∧ q.2.1 ≤ xs.length ∧ q.2.2.length = xs.length ∧ q.2.2.take q.1 = (xs.take q.2.1).filter (fun x => !p x) ∧ q.2.2.drop q.2.1 = xs.drop q.2.1 ∧ SH o (slO s zth zk6 q.2.2 :: G q.2.1) w)
      (fun q => xs.length - q.2.1) (i, i + 1, xs) ⟨rfl, by simp, by simp only; omega, rfl, hfil.symm, rfl, h⟩ ?_
    clear h
    rintro ⟨a, j, ys⟩ _ w cont ⟨rfl, haj, hj, hly, ht, hd, h⟩ hc
    simp only at haj hj hly ht hd h hc
    unfold zfy_5
    dsimp only
    refine mif_ok (fun g => ?_) (fun g => ?_)
    · have hlt : j < xs.length := by simp at g; omega
      have hyj : ys[j]? = some xs[j] := by
        have := congrArg (·[0]?) hd
        simp only [List.getElem?_drop, Nat.add_zero] at this
        rw [this, List.getElem?_eq_getElem hlt]
      have hds : ys.drop (j + 1) = xs.drop (j + 1) := by
        have := congrArg (List.drop 1) hd
        simpa [List.drop_drop, Nat.add_comm] using this
      refine ixa_ok (s := s) h (by omega) (by omega) fun e ea => ?_
      refine ld_el ea h hyj ?_
      refine alo_ok h fun b w h => ?_
      refine sto_var (a := b) h fun w h => ?_
      refine ld_var (a := b) h ?_
      have h : SH o (slO s zth zk6 ys :: vr b zth zk6 xs[j] :: G j) w := h.swap
      refine hf j (vr b zth zk6 xs[j]) ys xs[j] w _ (List.getElem?_eq_getElem hlt) h fun w h => ?_
      have h : SH o (slO s zth zk6 ys :: vr b zth zk6 xs[j] :: G (j + 1)) w := h
      unfold zfy_6
      refine mif_ok (fun g2 => ?_) (fun g2 => ?_)
      · have hp : p xs[j] = false := by simpa using g2
        refine ld_var (a := b) h ?_
        refine ixa_ok (s := s) h (by omega) (by omega) fun e2 ea2 => ?_
        refine sto_el ea2 h (by simp only [Int.toNat_natCast]; omega) fun w h => ?_
        rw [w64_of (by omega) (by omega), w64_of (by omega) (by omega)]
        simp only [Int.toNat_natCast] at h
        refine hc (a + 1, j + 1, ys.set a xs[j]) _ w (by simp only; omega) ⟨rfl, by simp only; omega, by simp only; omega, by simpa using hly, ?_, ?_, h.to⟩
        · simp only
          rw [List.take_add_one, List.getElem?_set_self (by omega), List.take_set_of_le (by omega), ht, List.take_add_one (l := xs), List.getElem?_eq_getElem hlt, List.filter_append]
          simp [hp]
        · simp only
          rw [List.drop_set_of_lt (by omega), hds]
      · have hp : p xs[j] = true := by simpa using g2
        rw [w64_of (by omega) (by omega)]
        refine hc (a, j + 1, ys) _ w (by simp only; omega) ⟨rfl, by simp only; omega, by simp only; omega, hly, ?_, hds, h.to⟩
        simp only
        rw [ht, List.take_add_one (l := xs), List.getElem?_eq_getElem hlt, List.filter_append]
        simp [hp]
    · have hje : j = xs.length := by simp at g; omega
      subst hje
      rw [List.take_length] at ht
      unfold zfy_2
      obtain ⟨q1, q2⟩ := slO_facts h
      refine slc_ok (k := zk6) (by simp) (by simp <;> omega) (by simp <;> omega) ?_
      simp only [Option.getD_some, Option.getD_none, Int.toNat_natCast]
      refine clear_tail (k := zk6) rfl h (by omega) fun w h => ?_
      refine slc_ok (k := zk6) (by simp) (by simp) (by simp <;> omega) ?_
      simp only [Option.getD_some, Option.getD_none, Int.toNat_natCast, Int.toNat_zero]
      have e1 : cut s zk6 0 a = ⟨s.a, a, s.cap⟩ := by
        obtain ⟨sa, sl, sc⟩ := s
        cases sa with
        | none => simp [cut]
        | some a => simp [cut, Addr.add]
      rw [e1, ]
      rw [ht] at h
      exact hR _ w h
  · refine mif_ok (fun _ => ?_) (fun g => ?_)
    · have e : xs.filter (fun x => !p x) = xs := List.filter_eq_self.2 fun x hx => by simp [hall x hx]
      exact hR s w (by rw [e]; exact h)
    · cases g
end
end Go.Proofs.YtpjhflboedicpaaGreatDoor
namespace Go.Proofs.YtpjhflboedicpaaGreatDoor
open Go Go.W
set_option maxRecDepth 100000
def cmpM (x y : Int) : Int := if x < y then -1 else if x > y then 1 else 0
def orderM (a b : zT6) : Int := if cmpM a.2.1 b.2.1 ≠ 0 then cmpM a.2.1 b.2.1 else cmpM a.1 b.1
theorem order_lt {a b : zT6} : orderM a b < 0 ↔ aheadB a b = true := by
  rw [ahead_iff]; unfold orderM cmpM
  split <;> split <;> (try split) <;> omega
theorem order_zero {a b : zT6} : orderM a b = 0 ↔ kOf a = kOf b := by
  unfold orderM cmpM kOf
  rw [Prod.mk.injEq]
  split <;> split <;> (try split) <;> omega
section
variable {o : Fix} {Γ Δ : List Assn} {w : World}
theorem isNaN_ok {R : Bool → World → Prop} {x : Int} (hR : R false w) : mcall P n_zf4k [.int .i64 x] .b R w := by
  apply zf4k_call
  show R (x != x) w
  have : (x != x) = false := by simp
  rw [this]; exact hR
theorem Compare_ok {R : Int → World → Prop} {x y : Int} (hR : R (cmpM x y) w) : mcall P n_zf3k [.int .i64 x, .int .i64 y] I R w := by
  apply zf3k_call
  refine isNaN_ok ?_
  refine isNaN_ok ?_
  refine mif_ok (fun g => ?_) (fun _ => ?_)
  · cases g
  refine mif_ok (fun g => ?_) (fun _ => ?_)
  · cases g
  unfold cmpM at hR
  refine mif_ok (fun g => ?_) (fun g => ?_)
  · rw [if_pos (by simpa using g)] at hR; exact hR
  rw [if_neg (by simpa using g)] at hR
  refine mif_ok (fun g => ?_) (fun g => ?_)
  · rw [if_pos (by simpa using g)] at hR; exact hR
  rw [if_neg (by simpa using g)] at hR
  exact hR
theorem Or2_ok {R : Int → World → Prop} {l : Sl} {x y : Int} (h : SH o Γ w) [hr : RdS l I [x, y] Γ] (hR : ∀ w', SH o Γ w' → R (if x ≠ 0 then x else y) w') : mcall P n_zf3j [Sl.v l] I R w := by
  apply zf3j_call
  have hlen := h.len (s := l)
  simp only [List.length_cons, List.length_nil] at hlen
  unfold zf3j_0 zf3j_1 zf3j_3 zf3j_4
  refine loop_ok (fun (i : Nat) t w => t = ((i : Int), ()) ∧ i ≤ 2 ∧ (1 ≤ i → x = 0) ∧ (2 ≤ i → y = 0) ∧ SH o Γ w) (fun i => 2 - i) 0 ⟨rfl, by omega, by omega, by omega, h⟩ ?_
  clear h
  rintro i _ w cont ⟨rfl, hi, h1, h2, h⟩ hc
  unfold zf3j_5
  dsimp only
  refine mif_ok (fun g => ?_) (fun g => ?_)
  · have hi2 : i = 0 ∨ i = 1 := by simp at g; omega
    rcases hi2 with rfl | rfl
    · refine ixa_ok (s := l) h (by omega) (by omega) fun e ea => ?_
      refine ld_el ea h rfl ?_
      refine mif_ok (fun g => ?_) (fun g => ?_)
      · have hx : x ≠ 0 := by simpa using g
        have := hR w h
        rwa [if_pos hx] at this
      · have hx : x = 0 := by simpa using g
        exact hc 1 _ w (by omega) ⟨rfl, by omega, fun _ => hx, by omega, h⟩
    · refine ixa_ok (s := l) h (by omega) (by omega) fun e ea => ?_
      refine ld_el ea h rfl ?_
      have hx := h1 (by omega)
      refine mif_ok (fun g => ?_) (fun g => ?_)
      · have := hR w h
        rwa [if_neg (by omega)] at this
      · have hy : y = 0 := by simpa using g
        exact hc 2 _ w (by omega) ⟨rfl, by omega, fun _ => hx, fun _ => hy, h⟩
  · have hi2 : 2 ≤ i := by simp at g; omega
    unfold zf3j_2
    have := hR w h
    rw [if_neg (by have := h1 (by omega); omega), h2 hi2] at this
    exact this
theorem order_ok {R : Int → World → Prop} {a b : zT6} (h : SH o Γ w) (hR : ∀ w', SH o Γ w' → R (orderM a b) w') : mcall P n_zf24 [KV zk6 a, KV zk6 b] I R w := by
  apply zf24_call
  refine bx_ok h fun x w h => ?_
  refine bx_ok h fun y w h => ?_
  refine mdraw_ok h fun w h => ?_
  refine ld_fld (a := x) h ?_
  refine ld_fld (a := y) h ?_
  refine ld_fld0 (a := x) h ?_
  refine ld_fld0 (a := y) h ?_
  refine Compare_ok ?_
  refine mst_fld0 (a := y) h ?_
  refine mst_fld0 (a := x) h ?_
  refine Compare_ok ?_
  refine bsl_ok h fun u w h => ?_
  refine Or2_ok (x := cmpM a.2.1 b.2.1) (y := cmpM a.1 b.1) h fun w h => ?_
  exact hR w h.to
theorem Value_ok {R : (Int × Bool × Unit) → World → Prop} {r : Rec} (hl : r.2.2.1.length ≤ 9223372036854775807) (h : SH o Γ w) (hR : ∀ v ok w', (ok = true → I64 v) → SH o Γ w' → R (v, ok, ()) w') : mcall P n_zfs [KV zk2 r] (.tup [I, .b]) R w := by
  obtain ⟨k, t, s, _⟩ := r
  apply zfs_call
  refine bx_ok h fun x w h => ?_
  refine ld_fld (a := x) h ?_
  refine Take_ok hl h fun w h => ?_
  cases e : vtake s with
  | none =>
    rw [takeR_none e]
    refine mif_ok (fun g => ?_) (fun g => ?_)
    · cases g
    exact hR _ _ w (fun h => by cases h) h.drop
  | some q =>
    obtain ⟨n, rest⟩ := q
    rw [takeR_some e]
    refine mif_ok (fun g => ?_) (fun g => ?_)
    · exact hR _ _ w (fun _ => vtake_i64 e) h.drop
    · cases g
end
end Go.Proofs.YtpjhflboedicpaaGreatDoor
namespace Go.Proofs.YtpjhflboedicpaaGreatDoor
open Go Go.W
set_option maxRecDepth 100000
theorem ishr_one (s : Nat) : ishr .u64 (s : Int) 1 = ((s / 2 : Nat) : Int) := by
  show (s : Int).fdiv (2 ^ (min (Int.toNat 1) 64)) = _
  have : min (Int.toNat 1) 64 = 1 := by decide
  rw [this]; show (s : Int).fdiv ((2 : Nat) : Int) = _
  rw [← Int.ofNat_fdiv]
theorem half_text {s : Nat} (hs : s ≤ 4611686018427387904) : w64 (ishr .u64 (wr64 (w64 (s : Int))) 1) = ((s / 2 : Nat) : Int) := by
  rw [w64_of (x := (s : Int)) (by omega) (by omega)]
  have e1 : wr64 (s : Int) = (s : Int) := by rw [wr64_eq]; omega
  rw [e1, ishr_one, w64_of (by omega) (by omega)]
section
variable {o : Fix} {Γ Δ : List Assn} {w : World}
theorem Search_ok {R : (Int × Bool × Unit) → World → Prop} {s : Sl} {xs : List zT6} {c : zT6} (hs : SortedC xs) (hl : xs.length ≤ 1099511627776) (h : SH o Γ w) [hr : RdS s zk6 xs Γ]
    (hR : ∀ (i : Nat) (ok : Bool) w', i ≤ xs.length → (∀ x ∈ xs.take i, aheadB x c = true) → (∀ x ∈ xs.drop i, ¬ aheadB x c = true) → (ok = true ↔ ∃ x, xs[i]? = some x ∧ kOf x = kOf c) → SH o Γ w' → R ((i : Int), ok, ()) w') :
    mcall P n_zf29 [Sl.v s, KV zk6 c, .func (.func n_zf24) #[] #[]] (.tup [I, .b]) R w := by
  apply zf29_call
  have hlen := h.len (s := s)
  refine bx_ok h fun t w h => ?_
  unfold zf29_1
  refine loop_ok (fun (q : Nat × Nat) st w => st = ((q.1 : Int), (q.2 : Int), ()) ∧ q.1 ≤ q.2 ∧ q.2 ≤ xs.length ∧ (∀ x ∈ xs.take q.1, aheadB x c = true) ∧ (∀ x ∈ xs.drop q.2, ¬ aheadB x c = true) ∧ SH o (vr t zth zk6 c :: Γ) w) (fun q => q.2 - q.1) (0, xs.length)
    ⟨by rw [hlen]; rfl, by simp, by simp, by simp, by simp, h⟩ ?_
  clear h
  rintro ⟨i, j⟩ _ w cont ⟨rfl, hij, hj, h1, h2, h⟩ hc
  simp only at hij hj h1 h2 hc
  unfold zf29_3
  dsimp only
  refine mif_ok (fun g => ?_) (fun g => ?_)
  · have hlt : i < j := by simp at g; omega
    refine mdraw_ok h fun w h => ?_
    have hm : w64 (ishr .u64 (wr64 (w64 ((i : Int) + (j : Int)))) 1) = (((i + j) / 2 : Nat) : Int) := by
      have := half_text (s := i + j) (by omega)
      rwa [Int.natCast_add] at this
    rw [hm]
    have hmid : i ≤ (i + j) / 2 ∧ (i + j) / 2 < j := by omega
    generalize (i + j) / 2 = m at hmid
    have hml : m < xs.length := by omega
    refine ixa_ok (s := s) h (by omega) (by omega) fun e ea => ?_
    refine ld_el ea h (List.getElem?_eq_getElem hml) ?_
    refine ld_var (a := t) h ?_
    refine order_ok (a := xs[m]) (b := c) h fun w h => ?_
    refine mif_ok (fun g => ?_) (fun g => ?_)
    · have ha : aheadB xs[m] c = true := order_lt.1 (by simpa using g)
      rw [w64_of (by omega) (by omega)]
      refine hc (m + 1, j) _ w (by simp only; omega) ⟨rfl, by simp only; omega, hj, fun x hx => ?_, h2, h⟩
      simp only at hx
      rw [List.take_add_one, List.getElem?_eq_getElem hml] at hx
      rcases List.mem_append.1 hx with hx | hx
      · obtain ⟨k, hk, rfl⟩ := List.mem_iff_getElem.1 hx
        have hk' : k < m := by simp at hk; omega
        have := List.pairwise_iff_getElem.1 hs k m (by omega) hml hk'
        rw [List.getElem_take]
        exact ahead_trans this ha
      · simp at hx; rw [hx]; exact ha
    · have hna : ¬ aheadB xs[m] c = true := fun e => by have := order_lt.2 e; simp at g; omega
      refine hc (i, m) _ w (by simp only; omega) ⟨rfl, by simp only; omega, by simp only; omega, h1, fun x hx => ?_, h⟩
      simp only at hx
      obtain ⟨k, hk, rfl⟩ := List.mem_iff_getElem.1 hx
      rw [List.getElem_drop]
      simp only [List.length_drop] at hk
      rcases Nat.eq_zero_or_pos k with rfl | hk0
      · exact hna
      · intro e
        have := List.pairwise_iff_getElem.1 hs m (m + k) hml (by omega) (by omega)
        exact hna (ahead_trans this e)
  · have he : i = j := by simp at g; omega
    subst he
    unfold zf29_2
    refine mdraw_ok h fun w h => ?_
    refine mif_ok (fun g => ?_) (fun g => ?_)
    · have hlt : i < xs.length := by simp at g; omega
      refine ixa_ok (s := s) h (by omega) (by omega) fun e ea => ?_
      refine ld_el ea h (List.getElem?_eq_getElem hlt) ?_
      refine ld_var (a := t) h ?_
      refine order_ok (a := xs[i]) (b := c) h fun w h => ?_
      refine hR i _ w hj h1 h2 ?_ h.drop
      rw [beq_iff_eq, order_zero, List.getElem?_eq_getElem hlt]
      constructor
      · exact fun e => ⟨_, rfl, e⟩
      · rintro ⟨x, hx, e⟩; cases hx; exact e
    · have hge : ¬ i < xs.length := by simp at g; omega
      refine hR i false w hj h1 h2 ?_ h.drop
      constructor
      · intro e; cases e
      · rintro ⟨x, hx, _⟩; exact absurd (List.getElem?_eq_some_iff.1 hx).1 hge
end
end Go.Proofs.YtpjhflboedicpaaGreatDoor
namespace Go.Proofs.YtpjhflboedicpaaGreatDoor
open Go Go.W
set_option maxRecDepth 100000
section
variable {o : Fix} {Γ Δ : List Assn} {w : World}
theorem ewithin_ok {R : Bool → World → Prop} {l : Sl} {xs : List Int} (h : SH o Γ w) [hr : RdS l I xs Γ] (hl : xs.length ≤ 9223372036854775807) (hR : ∀ w', SH o Γ w' → R (xs.all inB) w') : mcall P n_zfq [(Sl.v l)] .b R w := by
  apply zfq_call
  show mcall P n_zf25 [(Sl.v l), (.func (.func n_zf26) #[] #[])] .b (fun (x1 : Bool) => R (!x1)) w
  apply zf25_call
  refine IndexFunc_int_ok (p := fun x => !inB x) h hl (fun x w K _ h hK => ?_) fun r w hr h => ?_
  · show mcall P n_zf26 [.int .i64 x] .b K w
    apply zf26_call
    have := hK w h
    refine mif_ok (fun g => ?_) (fun g => ?_)
    · have e : (!inB x) = true := by simp [inB] at g ⊢; omega
      rw [e] at this; exact this
    · have e : (!inB x) = decide (x > 1099511627776) := by rw [Bool.eq_iff_iff]; simp [inB] at g ⊢; omega
      rw [e] at this; exact this
  · have := hR w h
    have e : xs.all inB = !decide (r ≥ 0) := by
      rw [Bool.eq_iff_iff]
      simp only [List.all_eq_true, Bool.not_eq_true', decide_eq_false_iff_not]
      constructor
      · intro ha hge
        obtain ⟨x, hx, hn⟩ := List.any_eq_true.1 (hr.2 hge)
        rw [ha x hx] at hn; cases hn
      · intro hn x hx
        cases e : inB x with
        | true => rfl
        | false => exact absurd (hr.1 (List.any_eq_true.2 ⟨x, hx, by simp [e]⟩)) hn
    rw [e] at this
    exact this
theorem ahead_ok {R : Bool → World → Prop} {a b : zT6} (h : SH o Γ w) (hR : ∀ w', SH o Γ w' → R (aheadB a b) w') : mcall P n_zf14 [KV zk6 a, KV zk6 b] .b R w := by
  apply zf14_call
  refine bx_ok h fun x w h => ?_
  refine bx_ok h fun y w h => ?_
  refine ld_fld (a := x) h ?_
  refine ld_fld (a := y) h ?_
  have hR' := hR w h.drop.drop
  unfold aheadB at hR'
  refine mif_ok (fun g => ?_) (fun g => ?_)
  · have g : decide (a.2.1 < b.2.1) = true := g
    rw [g, Bool.true_or] at hR'; exact hR'
  have g : decide (a.2.1 < b.2.1) = false := g
  rw [g, Bool.false_or] at hR'
  refine ld_fld (a := x) h ?_
  refine ld_fld (a := y) h ?_
  refine mif_ok (fun g => ?_) (fun g => ?_)
  · have g : (a.2.1 == b.2.1) = true := g
    rw [g, Bool.true_and] at hR'
    refine ld_fld0 (a := x) h ?_
    refine ld_fld0 (a := y) h ?_
    exact hR'
  · have g : (a.2.1 == b.2.1) = false := g
    rw [g, Bool.false_and] at hR'; exact hR'
end
end Go.Proofs.YtpjhflboedicpaaGreatDoor
namespace Go.Proofs.YtpjhflboedicpaaGreatDoor
open Go Go.W
set_option maxRecDepth 100000
structure CellOk (Q : Int → Int → Prop) (N : Int) (c : Cl) : Prop where
  at_ : Q c.1 c.2.1
  ag : OkAg c.2.2.1
  n : c.2.2.1.1 ≤ N
theorem CellOk.more {Q : Int → Int → Prop} {N M : Int} {c : Cl} (h : CellOk Q N c) (hNM : N ≤ M) : CellOk Q M c := ⟨h.at_, h.ag, by have := h.n; omega⟩
theorem sorted_ins {xs : List Cl} {c : Cl} {i : Nat} (hs : SortedC xs) (h1 : ∀ x ∈ xs.take i, aheadB x c = true) (h2 : ∀ x ∈ xs.drop i, ¬ aheadB x c = true) (h3 : ¬ ∃ x, xs[i]? = some x ∧ kOf x = kOf c) : SortedC (xs.take i ++ c :: xs.drop i) := by
  have hsp : xs.take i ++ xs.drop i = xs := List.take_append_drop i xs
  have hs' : SortedC (xs.take i ++ xs.drop i) := by rw [hsp]; exact hs
  obtain ⟨p1, p2, p3⟩ := List.pairwise_append.1 hs'
  have hfirst : ∀ x ∈ xs.drop i, aheadB c x = true := by
    cases hd : xs.drop i with
    | nil => intro x hx; cases hx
    | cons z l =>
      rw [hd] at p2 h2
      obtain ⟨q1, q2⟩ := List.pairwise_cons.1 p2
      have hz : xs[i]? = some z := by
        have := congrArg (·[0]?) hd
        simpa [List.getElem?_drop] using this
      have hcz : aheadB c z = true := by
        by_cases e : aheadB c z = true
        · exact e
        · exact absurd ⟨z, hz, ahead_key (h2 z (List.mem_cons_self ..)) e⟩ h3
      intro x hx
      rcases List.mem_cons.1 hx with rfl | hx
      · exact hcz
      · exact ahead_trans hcz (q1 x hx)
  refine List.pairwise_append.2 ⟨p1, List.pairwise_cons.2 ⟨hfirst, p2⟩, fun x hx y hy => ?_⟩
  rcases List.mem_cons.1 hy with rfl | hy
  · exact h1 x hx
  · exact p3 x hx y hy
theorem sorted_set {xs : List Cl} {c d : Cl} {i : Nat} (hs : SortedC xs) (hi : xs[i]? = some c) (hk : kOf d = kOf c) : SortedC (xs.set i d) := by
  obtain ⟨hlt, he⟩ := List.getElem?_eq_some_iff.1 hi
  refine List.pairwise_iff_getElem.2 fun a b ha hb hab => ?_
  have ha' : a < xs.length := by simpa using ha
  have hb' : b < xs.length := by simpa using hb
  have hp := List.pairwise_iff_getElem.1 hs a b ha' hb' hab
  rw [List.getElem_set, List.getElem_set]
  split
  · rename_i e; subst e
    rw [if_neg (by omega)]
    rw [(ahead_congr (c := xs[b]) (show kOf d = kOf xs[i] by rw [hk, he])).1]; exact hp
  · split
    · rename_i e; subst e
      rw [(ahead_congr (c := xs[a]) (show kOf d = kOf xs[i] by rw [hk, he])).2]; exact hp
    · exact hp
end Go.Proofs.YtpjhflboedicpaaGreatDoor
namespace Go.Proofs.YtpjhflboedicpaaGreatDoor
open Go Go.W
set_option maxRecDepth 100000
section
variable {o : Fix} {Γ Δ : List Assn} {w : World}
theorem take_ok {R : Bool → World → Prop} {p : Addr} {mk lt bd n key v N : Int} {L ss : Sl} {xs : List zT6} {sts : List Int} {Q : Int → Int → Prop} (hv : I64 v) (hs : SortedC xs) (hx : ∀ c ∈ xs, CellOk Q N c) (hN : 0 ≤ N ∧ N + sts.length < 1099511627776)
    (hq : ∀ s ∈ sts, Q key s) (hl : xs.length ≤ 64) (hsl : sts.length ≤ 8) (h : SH o (vr p zt9 zk1 (mk, lt, bd, n, L, ()) :: slO L zth zk6 xs :: Γ) w) [hr : RdS ss I sts Γ]
    (hT : ∀ L' ys w', SortedC ys → (∀ c ∈ ys, CellOk Q (N + sts.length) c) → ys.length ≤ 64 → SH o (vr p zt9 zk1 (mk, lt, bd, n, L', ()) :: slO L' zth zk6 ys :: Γ) w' → R true w')
    (hF : ∀ w', SH o (vr p zt9 zk1 (mk, lt, bd, n, L, ()) :: slO L zth zk6 xs :: Γ) w' → R false w') : mcall P n_zfx [(.pointer (some p)), .int .i64 key, .int .i64 v, Sl.v ss] .b R w := by
  apply zfx_call
  have hlen := (h.drop.drop).len (s := ss)
  refine mnil_ok ?_
  refine ld_fld (a := p) h ?_
  refine CloneC_ok (s := L) h (by omega) fun l w h => ?_
  unfold zfx_1 zfx_3 zfx_4
  refine loop_ok (fun (i : Nat) t w => ∃ l ys, t = (l, (i : Int), ()) ∧ i ≤ sts.length ∧ SortedC ys ∧ (∀ c ∈ ys, CellOk Q (N + i) c) ∧ ys.length ≤ 64 + i ∧ SH o (slO l zth zk6 ys :: vr p zt9 zk1 (mk, lt, bd, n, L, ()) :: slO L zth zk6 xs :: Γ) w) (fun i => sts.length - i) 0
    ⟨l, xs, rfl, by omega, hs, fun c hc => (hx c hc).more (by omega), by omega, h⟩ ?_
  clear h
  rintro i _ w cont ⟨l, ys, rfl, hi, hys, hcy, hly, h⟩ hc
  unfold zfx_5
  dsimp only
  refine mif_ok (fun g => ?_) (fun g => ?_)
  · have hlt : i < sts.length := by simp at g; omega
    refine ixa_ok (s := ss) h (by omega) (by omega) fun e ea => ?_
    refine ld_el ea h (List.getElem?_eq_getElem hlt) ?_
    have hqs := hq _ (List.getElem_mem hlt)
    generalize hst : sts[i] = st at hqs
    refine alo_ok h fun b w h => ?_
    refine sto_var (a := b) h fun w h => ?_
    refine ld_var (a := b) h ?_
    refine Search_ok (s := l) (c := (key, st, zeroA, ())) hys (by omega) h fun q ok w hq1 hq2 hq3 hq4 h => ?_
    unfold zfx_6
    refine mif_ok (fun g => ?_) (fun g => ?_)
    · have hok : ok = false := by simpa using g
      subst hok
      refine ld_var (a := b) h ?_
      refine bsl_ok h fun u w h => ?_
      have h : SH o (slO u zth zk6 [(key, st, zeroA, ())] :: vr b zth zk6 (key, st, zeroA, ()) :: slO l zth zk6 ys :: vr p zt9 zk1 (mk, lt, bd, n, L, ()) :: slO L zth zk6 xs :: Γ) w := h
      have h : SH o (slO l zth zk6 ys :: slO u zth zk6 [(key, st, zeroA, ())] :: vr p zt9 zk1 (mk, lt, bd, n, L, ()) :: slO L zth zk6 xs :: Γ) w := h.to
      refine Insert_one hq1 (by omega) h fun r w h => ?_
      have hr2 := h.len (s := r)
      have hlr : (ys.take q ++ (key, st, zeroA, ()) :: ys.drop q).length = ys.length + 1 := by simp; omega
      rw [hlr] at hr2
      have hget : (ys.take q ++ (key, st, zeroA, ()) :: ys.drop q)[q]? = some (key, st, zeroA, ()) := by
        rw [List.getElem?_append_right (by simp; omega)]
        have : q - (ys.take q).length = 0 := by simp; omega
        rw [this]; rfl
      refine ixa_ok (s := r) h (by omega) (by omega) fun e2 ea2 => ?_
      refine ld_elf (n := 2) (k' := zk5) ea2 h hget ?_
      refine Add_ok hv (.inr rfl) h fun a' w ha' hn' h => ?_
      refine ixa_ok (s := r) h (by omega) (by omega) fun e3 ea3 => ?_
      refine sto_elf (n := 2) (k' := zk5) ea3 h hget fun w h => ?_
      rw [w64_of (by omega) (by omega)]
      have h : SH o (slO r zth zk6 ((ys.take q ++ (key, st, zeroA, ()) :: ys.drop q).set q (key, st, a', ())) :: vr p zt9 zk1 (mk, lt, bd, n, L, ()) :: slO L zth zk6 xs :: Γ) w := h
      have hsq : (ys.take q ++ (key, st, zeroA, ()) :: ys.drop q).set q (key, st, a', ()) = ys.take q ++ (key, st, a', ()) :: ys.drop q := by
        have hl1 : (ys.take q).length = q := by simp; omega
        rw [List.set_append_right _ _ (by omega), hl1, Nat.sub_self]; rfl
      have hn1 : a'.1 = 1 := hn'
      have hno : ¬ ∃ x, ys[q]? = some x ∧ kOf x = kOf (key, st, zeroA, ()) := fun e => by have := hq4.2 e; cases this
      refine hc (i + 1) _ w (by omega) ⟨r, _, rfl, by omega, sorted_set (d := (key, st, a', ())) (sorted_ins hys hq2 hq3 hno) hget rfl, fun c hcm => ?_, ?_, h⟩
      · rw [hsq] at hcm
        rcases List.mem_append.1 hcm with hcm | hcm
        · exact (hcy c (List.mem_of_mem_take hcm)).more (by omega)
        · rcases List.mem_cons.1 hcm with rfl | hcm
          · exact ⟨hqs, ha', by show a'.1 ≤ _; omega⟩
          · exact (hcy c (List.mem_of_mem_drop hcm)).more (by omega)
      · rw [List.length_set, hlr]; omega
    · have hok : ok = true := by simpa using g
      obtain ⟨c0, hc0, hk0⟩ := hq4.1 hok
      obtain ⟨hlt0, he0⟩ := List.getElem?_eq_some_iff.1 hc0
      have hl3 := h.len (s := l)
      have hc0y := hcy c0 (List.mem_of_getElem? hc0)
      refine ixa_ok (s := l) h (by omega) (by omega) fun e2 ea2 => ?_
      refine ld_elf (n := 2) (k' := zk5) (y := c0.2.2.1) ea2 h hc0 ?_
      have hcn := hc0y.n
      refine Add_ok hv (.inl ⟨hc0y.ag, by omega⟩) h fun a' w ha' hn' h => ?_
      refine ixa_ok (s := l) h (by omega) (by omega) fun e3 ea3 => ?_
      refine sto_elf (n := 2) (k' := zk5) ea3 h hc0 fun w h => ?_
      rw [w64_of (by omega) (by omega)]
      have h : SH o (slO l zth zk6 (ys.set q (c0.1, c0.2.1, a', ())) :: vr b zth zk6 (key, st, zeroA, ()) :: vr p zt9 zk1 (mk, lt, bd, n, L, ()) :: slO L zth zk6 xs :: Γ) w := h
      refine hc (i + 1) _ w (by omega) ⟨l, _, rfl, by omega, sorted_set (d := (c0.1, c0.2.1, a', ())) hys hc0 rfl, fun c hcm => ?_, by rw [List.length_set]; omega, h.to⟩
      rcases List.mem_or_eq_of_mem_set hcm with hcm | rfl
      · exact (hcy c hcm).more (by omega)
      · exact ⟨hc0y.at_, ha', by show a'.1 ≤ _; omega⟩
  · have hie : i = sts.length := by simp at g; omega
    subst hie
    unfold zfx_2
    have hl2 := h.len (s := l)
    refine mif_ok (fun g => ?_) (fun g => ?_)
    · exact hF w h.drop
    · refine mnil_ok ?_
      refine sto_fld (a := p) h fun w h => ?_
      have h : SH o (slO l zth zk6 ys :: vr p zt9 zk1 (mk, lt, bd, n, l, ()) :: slO L zth zk6 xs :: Γ) w := h.to
      exact hT l ys w hys hcy (by simp at g; omega) h.to
end
end Go.Proofs.YtpjhflboedicpaaGreatDoor
