/- Contracts of functions of the program, proved on their short texts. No condition. -/
import Derived.Test.YtpjhflboedicpaaGreatDoorMg
set_option linter.unusedVariables false
set_option linter.unusedSimpArgs false
namespace Go.Proofs.YtpjhflboedicpaaGreatDoor
open Go Go.W
set_option maxRecDepth 100000
section
variable {o : Fix} {Γ Δ : List Assn} {w : World}
theorem Fuse_ok {R : Unit → World → Prop} {d : Addr} {fs : List DF} {room fuse n : Int} {off : Bool} (h : SH o (diskA d fs room fuse off :: Γ) w) (hR : ∀ w', SH o (diskA d fs room (mx n (-1)) off :: Γ) w' → R () w') : mcall P n_zfa [(.pointer (some d)), .int .i64 n] (.tup []) R w := by
  apply zfa_call
  obtain ⟨m, L, e1, e2, h⟩ := disk_open.1 h
  refine mne_ptr_nil ?_
  refine mif_ok (fun _ => ?_) (fun g => by cases g)
  refine mnil_ok ?_
  refine sto_fld (a := d) h fun w h => ?_
  exact hR w (disk_open.2 ⟨m, L, e1, e2, h⟩)
theorem readyN_ok {R : Int → World → Prop} {d : Addr} {nms : List Bs} {l : Sl} {m : Nat} {room fuse : Int} {off : Bool} (hn : ∀ nm ∈ nms, goodName nm = true) (hlen : nms.length ≤ 1099511627776) (h : SH o Γ w) [hd : RdV d ztl zk7 (some m, room, fuse, off, ()) Γ] [hl : RdS l .s nms Γ]
    (hR : ∀ w', SH o Γ w' → R (if off then 4 else 0) w') : mcall P n_zf2q [(.pointer (some d)), (Sl.v l)] I R w := by
  apply zf2q_call
  have hll := h.len (s := l)
  unfold zf2q_0 zf2q_1 zf2q_3 zf2q_4
  refine loop_ok (fun (i : Nat) t w => t = ((i : Int), ()) ∧ i ≤ nms.length ∧ SH o Γ w) (fun i => nms.length - i) 0 ⟨rfl, by omega, h⟩ ?_
  clear h
  rintro i _ w cont ⟨rfl, hi, h⟩ hc
  dsimp only
  refine mif_ok (fun g => ?_) (fun g => ?_)
  · have hlt : i < nms.length := by simp at g; omega
    refine ixa_ok (s := l) h (by omega) (by omega) fun e ea => ?_
    refine ld_el ea h (List.getElem?_eq_getElem hlt) ?_
    refine meq_ptr_nil ?_
    refine mif_ok (fun g2 => by cases g2) (fun _ => ?_)
    refine named_ok (hn _ (List.getElem_mem hlt)) h fun w h => ?_
    refine mif_ok (fun g3 => by cases g3) (fun _ => ?_)
    rw [w64_of (by omega) (by omega)]
    exact hc (i + 1) _ w (by omega) ⟨rfl, hlt, h⟩
  · unfold zf2q_2
    refine mnil_ok ?_
    refine ld_fld (a := d) h ?_
    refine mif_ok (fun g2 => ?_) (fun g2 => ?_)
    · have g2 : off = true := g2
      have := hR w h; rw [g2] at this; exact this
    · have g2 : off = false := g2
      have := hR w h; rw [g2] at this; exact this
theorem perm_erase {α : Type} : ∀ {l : List α} {i : Nat} {q : α}, l[i]? = some q → l.Perm (q :: l.eraseIdx i)
  | [], i, q, h => by simp at h
  | a :: l, 0, q, h => by simp at h; subst h; exact .refl _
  | a :: l, i + 1, q, h => by
    rw [List.eraseIdx_cons_succ]
    exact (List.Perm.cons a (perm_erase (l := l) (i := i) (by simpa using h))).trans (List.Perm.swap ..)
theorem del_s {t tk te tu tx : TypeId} {m : Nat} {kv : Kd} {es : List (Bs × KT kv)} {x : Bs} {K : Value → World → Prop} (h : SH o Γ w) [hm : HasM m .s kv es Γ Δ] [ht : TyMp P t tk te] [hk : TyKey P tk .s]
    (h1 : ∀ i v w', Fnd es x (some (i, v)) → SH o (mpA m .s kv (es.eraseIdx i) :: Δ) w' → K (.tuple #[]) w') (h2 : ∀ w', Fnd es x none → SH o (mpA m .s kv es :: Δ) w' → K (.tuple #[]) w') : mop P (Builtin.delete_ #[t, tx] tu #[.map (some m), .string ⟨x.toArray⟩]) .v K w :=
  del_ok (P := P) (t := t) (tx := tx) (tu := tu) (kk := .s) (x := x) h h1 h2
theorem keysOf_erase {L : List Fl} {i : Nat} : keysOf (L.eraseIdx i) = (keysOf L).eraseIdx i := by unfold keysOf; exact map_erase _ _ _
theorem nodup_erase_name {L : List Fl} {i : Nat} {q : Fl} (hn : (L.map (·.1)).Nodup) (hq : L[i]? = some q) : ∀ p ∈ L.eraseIdx i, p.1 ≠ q.1 := by
  have hp : L.Perm (q :: L.eraseIdx i) := perm_erase hq
  have h1 := (hp.map (·.1)).nodup_iff.1 hn
  rw [List.map_cons, List.nodup_cons] at h1
  exact fun p hp e => h1.1 (e ▸ List.mem_map_of_mem hp)
theorem Rename_ok {R : Int → World → Prop} {d : Addr} {fs : List DF} {room fuse : Int} {i : Nat} {fr to su lo : Bs} (hfr : goodName fr = true) (hto : goodName to = true) (hne : fr ≠ to) (hi : fs[i]? = some (fr, su, lo)) (hl : ∀ q ∈ fs, q.2.1.length + q.2.2.length ≤ 1099511627776) (hf : I64 fuse)
    (h : SH o (diskA d fs room fuse false :: Γ) w) (h4 : fuse = 0 → ∀ w', SH o (diskA d fs room fuse true :: Γ) w' → R 4 w')
    (h0 : fuse ≠ 0 → ∀ fs' room' w', (to, su, lo) ∈ fs' → (∀ q ∈ fs', q = (to, su, lo) ∨ q ∈ fs ∧ q.1 ≠ fr ∧ q.1 ≠ to) → fs'.length ≤ fs.length → ((∀ q ∈ fs, q.1 ≠ to) → room' = room) → SH o (diskA d fs' room' (fuse1 fuse) false :: Γ) w' → R 0 w') :
    mcall P n_zf1e [(.pointer (some d)), (.string ⟨fr.toArray⟩), (.string ⟨to.toArray⟩)] I R w := by
  apply zf1e_call
  obtain ⟨m, L, e1, e2, h⟩ := disk_open.1 h
  have h : SH o (vr d ztl zk7 (some m, room, fuse, false, ()) :: mpA m .s .p (keysOf L) :: (L.map fileA ++ Γ)) w := h
  have hnd : (L.map (·.1)).Nodup := by rw [← e1, List.map_map] at e2; exact e2
  obtain ⟨f, hq⟩ : ∃ f, L[i]? = some (fr, f, su, lo) := by
    rw [← e1, List.getElem?_map, Option.map_eq_some_iff] at hi
    obtain ⟨⟨n, f, a, b⟩, hq, he⟩ := hi
    simp only [dfOf, Prod.mk.injEq] at he
    obtain ⟨rfl, rfl, rfl⟩ := he
    exact ⟨f, hq⟩
  refine bx_ok h fun a1 w h => ?_
  refine bx_ok h fun a2 w h => ?_
  refine bx_ok h fun a3 w h => ?_
  refine ld_var (a := a1) h ?_
  refine ld_var (a := a2) h ?_
  refine ld_var (a := a3) h ?_
  refine bsl_ok h fun x w h => ?_
  refine readyN_ok (nms := [fr, to]) (m := m) (room := room) (fuse := fuse) (off := false) (by intro nm hnm; simp only [List.mem_cons, List.not_mem_nil, or_false] at hnm; rcases hnm with rfl | rfl <;> assumption) (by simp) h fun w h => ?_
  refine mif_ok (fun g => by simp at g) (fun _ => ?_)
  refine ld_var (a := a1) h ?_
  refine ld_var (a := a2) h ?_
  apply zf2p_call
  refine bsl_ok h fun x2 w h => ?_
  refine ready_ok hfr h fun w h => ?_
  refine mif_ok (fun g => by simp at g) (fun _ => ?_)
  refine mnil_ok ?_
  refine ld_fld0 (a := d) h ?_
  refine lku_ok h (fun j v hfn => ?_) (fun hfn => absurd hfn (fnd_none hq))
  obtain ⟨rfl, rfl⟩ := fnd_key hnd hq hfn
  refine meq_ptr_nil ?_
  refine mif_ok (fun g2 => by cases g2) (fun _ => ?_)
  have h : SH o (vr d ztl zk7 (some m, room, fuse, false, ()) :: mpA m .s .p (keysOf L) :: vr a1 zte .p (some d) :: vr a2 zt4 .s fr :: vr a3 zt4 .s to :: (L.map fileA ++ Γ)) w := h.to
  refine burn_ok hf h (fun hz w h => ?_) (fun hz w h => ?_)
  · refine mif_ok (fun g3 => ?_) (fun g3 => by cases g3)
    have h : SH o (vr d ztl zk7 (some m, room, fuse, true, ()) :: mpA m .s .p (keysOf L) :: (L.map fileA ++ Γ)) w := h.to
    exact h4 hz w (disk_open.2 ⟨m, L, e1, e2, h⟩)
  refine mif_ok (fun g3 => by cases g3) (fun _ => ?_)
  show mcall P n_zf2t [.pointer (some f), .pointer (some a1), .pointer (some a3), .pointer (some a2)] I _ w
  apply zf2t_call
  have hfileP := perm_erase hq
  have fin : ∀ (room' : Int) w, ((∀ q ∈ fs, q.1 ≠ to) → room' = room) → SH o (vr d ztl zk7 (some m, room', fuse1 fuse, false, ()) :: mpA m .s .p (keysOf L) :: vr a1 zte .p (some d) :: vr a2 zt4 .s fr :: vr a3 zt4 .s to :: (L.map fileA ++ Γ)) w →
      zf2t_1 (fun x11 => R x11) (some f) a1 a3 a2 w := by
    intro room' w hroom h
    unfold zf2t_1
    refine mdraw_ok h fun w h => ?_
    refine ld_var (a := a1) h ?_
    refine mnil_ok ?_
    refine ld_fld0 (a := d) h ?_
    refine ld_var (a := a2) h ?_
    refine del_s h (fun j v w hfn h => ?_) (fun w hfn h => absurd hfn (fnd_none hq))
    obtain ⟨rfl, rfl⟩ := fnd_key hnd hq hfn
    rw [← keysOf_erase] at h
    refine mdraw_ok h fun w h => ?_
    refine ld_var (a := a1) h ?_
    refine mnil_ok ?_
    refine ld_fld0 (a := d) h ?_
    refine ld_var (a := a3) h ?_
    have hen := nodup_erase_name hnd hq
    have hnd2 : ((L.eraseIdx j).map (·.1)).Nodup := by rw [map_erase]; exact hnd.sublist (List.eraseIdx_sublist ..)
    have hmemfs : ∀ p ∈ L.eraseIdx j, dfOf p ∈ fs := fun p hp => by rw [← e1]; exact List.mem_map_of_mem (List.mem_of_mem_eraseIdx hp)
    have hLlen : L.length = fs.length := by rw [← e1]; simp
    have hilt := (List.getElem?_eq_some_iff.1 hq).1
    have hel : (L.eraseIdx j).length = L.length - 1 := List.length_eraseIdx_of_lt hilt
    refine mup_ok h (fun k v w hfn2 h => ?_) (fun w hfn2 h => ?_)
    · obtain ⟨q, hqk, hqn, rfl⟩ := fnd_at hfn2
      have hklt := (List.getElem?_eq_some_iff.1 hqk).1
      have hk' : ((L.eraseIdx j).set k (to, f, su, lo))[k]? = some (to, f, su, lo) := by rw [List.getElem?_set_self]; exact hklt
      refine h0 hz (((L.eraseIdx j).set k (to, f, su, lo)).map dfOf) room' w ?_ ?_ ?_ hroom ?_
      · exact List.mem_map.2 ⟨_, List.mem_of_getElem? hk', rfl⟩
      · intro p hp
        obtain ⟨y, hy, rfl⟩ := List.mem_map.1 hp
        have hpp := perm_erase hk'
        rw [List.eraseIdx_set_eq] at hpp
        rcases List.mem_cons.1 (hpp.mem_iff.1 hy) with rfl | hy
        · exact .inl rfl
        · have hy1 := List.mem_of_mem_eraseIdx hy
          refine .inr ⟨hmemfs y hy1, hen y hy1, ?_⟩
          have := nodup_erase_name hnd2 hqk y hy
          rwa [hqn] at this
      · rw [List.length_map, List.length_set]; omega
      · refine disk_open.2 ⟨m, _, rfl, ?_, ?_⟩
        · rw [List.map_map]
          have hpp := perm_erase hk'
          rw [List.eraseIdx_set_eq] at hpp
          refine (hpp.map (·.1)).nodup_iff.2 ?_
          rw [List.map_cons, List.nodup_cons]
          have hpq := perm_erase hqk
          have hn3 := (hpq.map (·.1)).nodup_iff.1 hnd2
          rw [List.map_cons, List.nodup_cons, hqn] at hn3
          exact hn3
        · have hks : (keysOf (L.eraseIdx j)).set k (to, some f) = keysOf ((L.eraseIdx j).set k (to, f, su, lo)) := by unfold keysOf; rw [List.map_set]
          rw [hks] at h
          have h : SH o (vr d ztl zk7 (some m, room', fuse1 fuse, false, ()) :: mpA m .s .p (keysOf ((L.eraseIdx j).set k (to, f, su, lo))) :: (L.map fileA ++ Γ)) w := h.to
          have hP1 : (L.map fileA).Perm (fileA (fr, f, su, lo) :: fileA q :: ((L.eraseIdx j).eraseIdx k).map fileA) := by
            have := (hfileP.trans (List.Perm.cons _ (perm_erase hqk))).map fileA
            simpa using this
          have hP2 : (((L.eraseIdx j).set k (to, f, su, lo)).map fileA).Perm (fileA (fr, f, su, lo) :: ((L.eraseIdx j).eraseIdx k).map fileA) := by
            have hpp := perm_erase hk'
            rw [List.eraseIdx_set_eq] at hpp
            exact hpp.map fileA
          have h := h.perm (List.Perm.cons _ (List.Perm.cons _ (hP1.append_right Γ)))
          have h := h.perm (show (_ :: _ :: (fileA (fr, f, su, lo) :: fileA q :: ((L.eraseIdx j).eraseIdx k).map fileA ++ Γ)).Perm (fileA q :: vr d ztl zk7 (some m, room', fuse1 fuse, false, ()) :: mpA m .s .p (keysOf ((L.eraseIdx j).set k (to, f, su, lo))) :: (fileA (fr, f, su, lo) :: ((L.eraseIdx j).eraseIdx k).map fileA ++ Γ)) by
            refine List.Perm.trans (List.Perm.cons _ (List.Perm.cons _ (List.Perm.swap _ _ _))) ?_
            refine List.Perm.trans (List.Perm.cons _ (List.Perm.swap _ _ _)) ?_
            exact List.Perm.swap _ _ _)
          exact h.drop.perm (List.Perm.cons _ (List.Perm.cons _ (hP2.symm.append_right Γ)))
    · have hnew : ∀ p ∈ L.eraseIdx j, p.1 ≠ to := fun p hp e => hfn2 (p.1, some p.2.1) (List.mem_map.2 ⟨p, hp, rfl⟩) e
      refine h0 hz ((L.eraseIdx j ++ [(to, f, su, lo)]).map dfOf) room' w ?_ ?_ ?_ hroom ?_
      · simp [dfOf]
      · intro p hp
        obtain ⟨y, hy, rfl⟩ := List.mem_map.1 hp
        rcases List.mem_append.1 hy with hy | hy
        · exact .inr ⟨hmemfs y hy, hen y hy, hnew y hy⟩
        · simp only [List.mem_singleton] at hy; subst hy; exact .inl rfl
      · rw [List.length_map, List.length_append]; simp; omega
      · refine disk_open.2 ⟨m, _, rfl, ?_, ?_⟩
        · rw [List.map_map, List.map_append, List.nodup_append]
          refine ⟨hnd2, by simp, fun a ha b hb => ?_⟩
          simp only [List.map_cons, List.map_nil, List.mem_singleton, Function.comp_apply, dfOf] at hb
          obtain ⟨p, hp, rfl⟩ := List.mem_map.1 ha
          rw [hb]; exact hnew p hp
        · have hks : keysOf (L.eraseIdx j) ++ [(to, some f)] = keysOf (L.eraseIdx j ++ [(to, f, su, lo)]) := by unfold keysOf; rw [List.map_append]; rfl
          rw [hks] at h
          have h : SH o (vr d ztl zk7 (some m, room', fuse1 fuse, false, ()) :: mpA m .s .p (keysOf (L.eraseIdx j ++ [(to, f, su, lo)])) :: (L.map fileA ++ Γ)) w := h.to
          have hP : (L.map fileA).Perm ((L.eraseIdx j ++ [(to, f, su, lo)]).map fileA) := by
            refine (hfileP.map fileA).trans ?_
            rw [List.map_append, List.map_cons]
            exact (List.perm_append_singleton _ _).symm
          exact h.perm (List.Perm.cons _ (List.Perm.cons _ (hP.append_right Γ)))
  unfold zf2t_0
  refine mdraw_ok h fun w h => ?_
  refine ld_var (a := a1) h ?_
  refine mnil_ok ?_
  refine ld_fld0 (a := d) h ?_
  refine ld_var (a := a3) h ?_
  refine lku_ok h (fun k v hfn2 => ?_) (fun hfn2 => ?_)
  · obtain ⟨q, hqk, hqn, rfl⟩ := fnd_at hfn2
    refine mne_ptr_nil ?_
    refine mif_ok (fun _ => ?_) (fun g => by cases g)
    refine ld_var (a := a2) h ?_
    refine ld_var (a := a3) h ?_
    refine mif_ok (fun _ => ?_) (fun g => ?_)
    · refine mdraw_ok h fun w h => ?_
      refine ld_var (a := a1) h ?_
      refine mnil_ok ?_
      refine ld_fld (a := d) h ?_
      have hqf : dfOf q ∈ fs := by rw [← e1]; exact List.mem_map_of_mem (List.mem_of_getElem? hqk)
      have hP := (perm_erase hqk).map fileA
      rw [List.map_cons] at hP
      have h := h.perm (List.Perm.cons _ (List.Perm.cons _ (List.Perm.cons _ (List.Perm.cons _ (List.Perm.cons _ (hP.append_right Γ))))))
      have h : SH o (vr d ztl zk7 (some m, room, fuse1 fuse, false, ()) :: mpA m .s .p (keysOf L) :: vr a1 zte .p (some d) :: vr a2 zt4 .s fr :: vr a3 zt4 .s to :: vr q.2.1 ztr zka (q.2.2.1, q.2.2.2, ()) :: ((L.eraseIdx k).map fileA ++ Γ)) w := h
      have hql := hl _ hqf
      simp only [dfOf] at hql
      refine size_ok (f := q.2.1) (su := q.2.2.1) (lo := q.2.2.2) hql h fun w h => ?_
      refine mst_fld (a := d) h ?_
      refine mst_var (a := a1) h ?_
      refine blocks_ok hql ?_
      refine mst_fld (a := d) h ?_
      refine mst_var (a := a1) h ?_
      refine mnil_ok ?_
      refine sto_fld (a := d) h fun w h => ?_
      refine fin (w64 (room + blk (q.2.2.1.length + q.2.2.2.length))) w (fun hno => absurd hqn (hno _ hqf)) ?_
      exact h.perm (List.Perm.cons _ (List.Perm.cons _ (List.Perm.cons _ (List.Perm.cons _ (List.Perm.cons _ (hP.symm.append_right Γ))))))
    · simp only [Bool.not_eq_false', beq_iff_eq] at g; exact absurd g hne
  · refine mne_ptr_nil ?_
    refine mif_ok (fun g => by cases g) (fun _ => ?_)
    exact fin room w (fun _ => rfl) h
end
end Go.Proofs.YtpjhflboedicpaaGreatDoor
namespace Go.Proofs.YtpjhflboedicpaaGreatDoor
open Go Go.W
set_option maxRecDepth 100000
section
variable {o : Fix} {Γ Δ : List Assn} {w : World}
theorem SH.dropL {L : List Assn} (h : SH o (L ++ Γ) w) : SH o Γ w := by
  induction L with
  | nil => exact h
  | cons A L ih => exact ih (SH.drop h)
instance (priority := low) RdS.appL {s : Sl} {k : Kd} {xs : List (KT k)} {L Γ : List Assn} [hr : RdS s k xs Γ] : RdS s k xs (L ++ Γ) := ⟨fun hs => hr.rd (SH.dropL hs)⟩
theorem crash_cut {K : World → Prop} {d f : Addr} {m : Nat} {room fuse k : Int} {off : Bool} {su lo : Bs} (hl : su.length + lo.length ≤ 1099511627776) (hk : 0 ≤ k ∧ k ≤ lo.length)
    (h : SH o (vr d ztl zk7 (some m, room, fuse, off, ()) :: vr f ztr zka (su, lo, ()) :: Γ) w)
    (hK : ∀ room' w', SH o (vr d ztl zk7 (some m, room', fuse, off, ()) :: vr f ztr zka (su ++ lo.take k.toNat, [], ()) :: Γ) w' → K w') :
    (mdraw <|
 mnil (some d) fun a17 =>
 ld P zt1 (ad a17 1) I fun (x18 : Int) =>
 mcall P n_zf1k [(.pointer (some f))] I fun (x19 : Int) =>
 mst P (Instr.loadAt zt1 (.pointer (some (ad a17 1)))) (.int .i64 x18) <|
 mcall P n_zf1j [(.int .i64 x19)] I fun (x20 : Int) =>
 mst P (Instr.loadAt zt1 (.pointer (some (ad a17 1)))) (.int .i64 x18) <|
 mnil (some d) fun a21 =>
 sto P zt1 (ad a21 1) I (w64 (x18 + x20)) <|
 mdraw <|
 mnil (some f) fun a22 =>
 ld P zt4 a22 .s fun (x23 : Bs) =>
 mnil (some f) fun a24 =>
 ld P zt4 (ad a24 1) .s fun (x25 : Bs) =>
 sls P zt4 x25 none (some k) fun (x26 : Bs) =>
 mcat x23 x26 fun s27 =>
 mnil (some f) fun a28 =>
 sto P zt4 a28 .s s27 <|
 mnil (some f) fun a29 =>
 sto P zt4 (ad a29 1) .s [] <|
 mdraw <|
 mnil (some d) fun a30 =>
 ld P zt1 (ad a30 1) I fun (x31 : Int) =>
 mcall P n_zf1k [(.pointer (some f))] I fun (x32 : Int) =>
 mst P (Instr.loadAt zt1 (.pointer (some (ad a30 1)))) (.int .i64 x31) <|
 mcall P n_zf1j [(.int .i64 x32)] I fun (x33 : Int) =>
 mst P (Instr.loadAt zt1 (.pointer (some (ad a30 1)))) (.int .i64 x31) <|
 mnil (some d) fun a34 =>
 sto P zt1 (ad a34 1) I (w64 (x31 - x33)) <|
 K) w := by
  refine mdraw_ok h fun w h => ?_
  refine mnil_ok ?_
  refine ld_fld (a := d) h ?_
  refine size_ok (f := f) (su := su) (lo := lo) hl h fun w h => ?_
  refine mst_fld (a := d) h ?_
  refine blocks_ok hl ?_
  refine mst_fld (a := d) h ?_
  refine mnil_ok ?_
  refine sto_fld (a := d) h fun w h => ?_
  refine mdraw_ok h fun w h => ?_
  refine mnil_ok ?_
  refine ld_fld0 (a := f) h ?_
  refine mnil_ok ?_
  refine ld_fld (a := f) h ?_
  refine sls_to hk.1 hk.2 ?_
  have htl : (lo.take k.toNat).length ≤ lo.length := by rw [List.length_take]; omega
  refine mcat_ok (by dsimp only; omega) ?_
  refine mnil_ok ?_
  refine sto_fld0 (a := f) h fun w h => ?_
  refine mnil_ok ?_
  refine sto_fld (a := f) h fun w h => ?_
  refine mdraw_ok h fun w h => ?_
  refine mnil_ok ?_
  refine ld_fld (a := d) h ?_
  refine size_ok (f := f) (su := su ++ lo.take k.toNat) (lo := []) (by rw [List.length_append]; simp; omega) h fun w h => ?_
  refine mst_fld (a := d) h ?_
  refine blocks_ok (by rw [List.length_append]; simp; omega) ?_
  refine mst_fld (a := d) h ?_
  refine mnil_ok ?_
  refine sto_fld (a := d) h fun w h => ?_
  exact hK (w64 (w64 (room + blk (su.length + lo.length)) - blk ((su ++ lo.take k.toNat).length + ([] : Bs).length))) w h
def cutFs (fs cur : List DF) : Prop := cur.length = fs.length ∧ ∀ (i : Nat) (q : DF), fs[i]? = some q → ∃ k, cur[i]? = some (q.1, q.2.1 ++ q.2.2.take k, [])
theorem Crash_ok {R : Unit → World → Prop} {d : Addr} {fs : List DF} {room fuse : Int} {off : Bool} {keep : Sl} {kp : List Int} (hf : fs.length ≤ 12) (hl : ∀ q ∈ fs, q.2.1.length + q.2.2.length ≤ 1099511627776) (h : SH o (diskA d fs room fuse off :: Γ) w) [hr : RdS keep I kp Γ]
    (hR : ∀ fs' room' w', cutFs fs fs' → SH o (diskA d fs' room' (-1) false :: Γ) w' → R () w') : mcall P n_zfc [(.pointer (some d)), (Sl.v keep)] (.tup []) R w := by
  apply zfc_call
  have hkeep := h.len (s := keep)
  obtain ⟨m, L, e1, e2, h⟩ := disk_open.1 h
  have h : SH o (vr d ztl zk7 (some m, room, fuse, off, ()) :: mpA m .s .p (keysOf L) :: (L.map fileA ++ Γ)) w := h
  have hL : L.length = fs.length := by rw [← e1]; simp
  have hkn : (keysOf L).map (·.1) = fs.map (·.1) := by rw [← e1]; simp [keysOf, dfOf]
  refine meq_ptr_nil ?_
  refine mif_ok (fun g => by cases g) (fun _ => ?_)
  unfold zfc_1 zfc_3
  refine mnil_ok ?_
  refine ld_fld0 (a := d) h ?_
  apply zf1i_call
  refine bx_ok h fun v w h => ?_
  have h : SH o (vr v ztk .m (some m) :: mpA m .s .p (keysOf L) :: vr d ztl zk7 (some m, room, fuse, off, ()) :: (L.map fileA ++ Γ)) w := h.perm ((List.Perm.refl _).cons _ |>.trans (List.Perm.cons _ (List.Perm.swap ..)))
  refine Sorted_ok (by simp [keysOf]; omega) h fun u ks w hp h => ?_
  have hul := h.len (s := u)
  have hkl := hp.length_eq
  rw [hkn] at hp
  simp only [keysOf, List.length_map] at hkl
  have hknd : ks.Nodup := hp.nodup_iff.2 e2
  have h : SH o (vr d ztl zk7 (some m, room, fuse, off, ()) :: mpA m .s .p (keysOf L) :: (L.map fileA ++ (slO u zt4 .s ks :: Γ))) w := h.perm (by
    exact (List.Perm.swap _ _ _).trans ((List.Perm.cons _ (List.Perm.swap _ _ _)).trans ((List.Perm.swap _ _ _).trans (List.Perm.cons _ (List.Perm.cons _ List.perm_middle.symm)))))
  have h : SH o (diskA d fs room fuse off :: slO u zt4 .s ks :: Γ) w := disk_open.2 ⟨m, L, e1, e2, h⟩
  clear hkl hkn hL e1
  unfold zfc_4
  have hkfl : ks.length = fs.length := by have := hp.length_eq; simpa using this
  refine loop_ok (fun (j : Nat) t w => t = ((j : Int), ()) ∧ j ≤ ks.length ∧ ∃ cur room', cur.length = fs.length ∧ (∀ (i : Nat) (q : DF), fs[i]? = some q → (q.1 ∈ ks.take j → ∃ k, cur[i]? = some (q.1, q.2.1 ++ q.2.2.take k, [])) ∧ (q.1 ∉ ks.take j → cur[i]? = some q)) ∧
    SH o (diskA d cur room' fuse off :: slO u zt4 .s ks :: Γ) w) (fun j => ks.length - j) 0 ⟨rfl, by omega, fs, room, rfl, fun i q hq => ⟨by simp, fun _ => hq⟩, h⟩ ?_
  clear h
  rintro j _ w cont ⟨rfl, hj, cur, room', hcl, hcur, h⟩ hc
  unfold zfc_5
  dsimp only
  refine mif_ok (fun g => ?_) (fun g => ?_)
  · have hlt : j < ks.length := by simp at g; omega
    have htk : ks.take (j + 1) = ks.take j ++ [ks[j]] := by rw [List.take_add_one, List.getElem?_eq_getElem hlt]; rfl
    have hnj : ks[j] ∉ ks.take j := by
      intro hm
      obtain ⟨k, hk, e⟩ := List.mem_iff_getElem.1 hm
      have hkj : k < j := by rw [List.length_take] at hk; omega
      rw [List.getElem_take] at e
      exact List.pairwise_iff_getElem.1 hknd k j (by omega) hlt hkj e
    obtain ⟨i, q, hq, hqn⟩ : ∃ (i : Nat) (q : DF), fs[i]? = some q ∧ q.1 = ks[j] := by
      have hm : ks[j] ∈ fs.map (·.1) := hp.mem_iff.1 (List.getElem_mem hlt)
      obtain ⟨q, hq, he⟩ := List.mem_map.1 hm
      obtain ⟨i, hi⟩ := List.getElem?_of_mem hq
      exact ⟨i, q, hi, he⟩
    have hci := (hcur i q hq).2 (by rw [hqn]; exact hnj)
    have hql := hl q (List.mem_of_getElem? hq)
    refine ixa_ok (s := u) h (by omega) (by omega) fun e ea => ?_
    refine ld_el ea h (List.getElem?_eq_getElem hlt) ?_
    obtain ⟨m, L, f, hLq, hnd, h, close⟩ := disk_pick hci h
    refine mnil_ok ?_
    refine ld_fld0 (a := d) h ?_
    have next : ∀ (k : Nat) room2 w, SH o (vr d ztl zk7 (some m, room2, fuse, off, ()) :: vr f ztr zka (q.2.1 ++ q.2.2.take k, [], ()) :: mpA m .s .p (keysOf L) :: ((L.eraseIdx i).map fileA ++ (slO u zt4 .s ks :: Γ))) w →
        zfc_6 cont R (some d) keep u (u.len : Int) j w := by
      intro k room2 w h
      unfold zfc_6
      rw [w64_of (by omega) (by omega)]
      have h := close room2 fuse off (q.2.1 ++ q.2.2.take k) [] w h.to
      refine hc (j + 1) _ w (by omega) ⟨rfl, hlt, _, room2, by rw [List.length_set]; exact hcl, fun i2 q2 hq2 => ?_, h⟩
      rw [htk]
      have hilt := (List.getElem?_eq_some_iff.1 hci).1
      by_cases hi2 : i2 = i
      · subst hi2
        rw [hq] at hq2; cases hq2
        refine ⟨fun _ => ⟨k, by rw [List.getElem?_set_self hilt]⟩, fun hn => absurd (List.mem_append_right _ (by simp [hqn])) hn⟩
      · have hne : q2.1 ≠ ks[j] := by
          intro e
          have h1 := List.pairwise_iff_getElem.1 e2
          obtain ⟨g1, g1e⟩ := List.getElem?_eq_some_iff.1 hq
          obtain ⟨g2, g2e⟩ := List.getElem?_eq_some_iff.1 hq2
          rcases Nat.lt_or_gt_of_ne hi2 with hlt2 | hgt2
          · exact h1 i2 i (by simpa using g2) (by simpa using g1) hlt2 (by rw [List.getElem_map, List.getElem_map, g1e, g2e, e, hqn])
          · exact h1 i i2 (by simpa using g1) (by simpa using g2) hgt2 (by rw [List.getElem_map, List.getElem_map, g1e, g2e, e, hqn])
        rw [List.getElem?_set_ne (Ne.symm hi2)]
        refine ⟨fun hm => ?_, fun hn => ?_⟩
        · rcases List.mem_append.1 hm with hm | hm
          · exact (hcur i2 q2 hq2).1 hm
          · simp only [List.mem_singleton] at hm; exact absurd hm hne
        · exact (hcur i2 q2 hq2).2 fun hm => hn (List.mem_append_left _ hm)
    have hkey : ∀ {v : Option Addr} {p : Nat}, Fnd (keysOf L) ks[j] (some (p, v)) → v = some f := by
      intro v p hfn
      have hfn' : Fnd (keysOf L) (q.1, f, q.2.1, q.2.2).1 (some (p, v)) := by show Fnd (keysOf L) q.1 _; rw [hqn]; exact hfn
      exact (fnd_key hnd hLq hfn').2
    refine lku_ok h (fun p v hfn => ?_) (fun hfn => ?_)
    · obtain rfl := hkey hfn
      have h : SH o (vr d ztl zk7 (some m, room', fuse, off, ()) :: vr f ztr zka (q.2.1, q.2.2, ()) :: mpA m .s .p (keysOf L) :: ((L.eraseIdx i).map fileA ++ (slO u zt4 .s ks :: Γ))) w := h.to
      refine mif_ok (fun g2 => ?_) (fun _ => ?_)
      · have hjk : j < kp.length := by simp at g2; omega
        refine mdraw_ok h fun w h => ?_
        refine ixa_ok (s := keep) h (by omega) (by omega) fun e2 ea2 => ?_
        refine ld_el ea2 h (List.getElem?_eq_getElem hjk) ?_
        refine mnil_ok ?_
        refine ld_fld (a := f) h ?_
        have hb : 0 ≤ mx 0 (mn kp[j] (q.2.2.length : Int)) ∧ mx 0 (mn kp[j] (q.2.2.length : Int)) ≤ q.2.2.length := by unfold mx mn; constructor <;> (repeat' split) <;> omega
        exact crash_cut hql hb h fun room2 w h => next _ room2 w h
      · exact crash_cut hql ⟨by omega, by omega⟩ h fun room2 w h => next 0 room2 w h
    · exfalso
      refine fnd_none hLq ?_
      show Fnd (keysOf L) q.1 none
      rw [hqn]; exact hfn
  · have hje : j = ks.length := by simp at g; omega
    subst hje
    rw [List.take_length] at hcur
    unfold zfc_2
    obtain ⟨m, L, e1, e2', h⟩ := disk_open.1 h
    refine mnil_ok ?_
    refine sto_fld (a := d) h fun w h => ?_
    refine mnil_ok ?_
    refine sto_fld (a := d) h fun w h => ?_
    have h : SH o (diskA d cur room' (-1) false :: slO u zt4 .s ks :: Γ) w := disk_open.2 ⟨m, L, e1, e2', h⟩
    refine hR cur room' w ⟨hcl, fun i q hq => ?_⟩ h.swap.drop
    exact (hcur i q hq).1 (hp.mem_iff.2 (List.mem_map_of_mem (List.mem_of_getElem? hq)))
end
end Go.Proofs.YtpjhflboedicpaaGreatDoor
namespace Go.Proofs.YtpjhflboedicpaaGreatDoor
open Go Go.W
set_option maxRecDepth 100000
def chg : Bs := [99, 104, 103]
def chgNew : Bs := [99, 104, 103, 46, 110, 101, 119]
def letters37 : Bs := [97, 98, 99, 100, 101, 102, 103, 104, 105, 106, 107, 108, 109, 110, 111, 112, 113, 114, 115, 116, 117, 118, 119, 120, 121, 122, 48, 49, 50, 51, 52, 53, 54, 55, 56, 57, 45]
theorem chg_good : goodName chg = true := by decide
theorem chgNew_good : goodName chgNew = true := by decide
section
variable {o : Fix} {Γ Δ : List Assn} {w : World}
theorem cnamed_ok {R : Bool → World → Prop} (h : SH o Γ w) (hR : ∀ w', SH o Γ w' → R true w') : mcall P n_zf17 [(.string ⟨chg.toArray⟩)] .b R w := by
  apply zf17_call
  refine mif_ok (fun _ => ?_) (fun g => by cases g)
  refine mif_ok (fun _ => ?_) (fun g => by cases g)
  refine Trim_ok (cs := letters37) (by decide) (by decide) (by decide) (by decide) (by decide) (by decide) h fun w h => ?_
  exact hR w h
theorem ContainsFile_ok {R : Bool → World → Prop} {s : Sl} {fl : List zT9} {f : Value} {p : zT9 → Bool} (h : SH o Γ w) [hr : RdS s zk9 fl Γ] (hl : fl.length ≤ 1099511627776)
    (hf : ∀ x w (K : Bool → World → Prop), SH o Γ w → (∀ w', SH o Γ w' → K (p x) w') → mdyn P f [KV zk9 x] .b K w)
    (hR : ∀ w', SH o Γ w' → R (fl.any p) w') : mcall P n_zf18 [(Sl.v s), f] .b R w := by
  apply zf18_call
  apply zf2o_call
  have hlen := h.len (s := s)
  unfold zf2o_0 zf2o_1 zf2o_3 zf2o_4
  refine loop_ok (fun (i : Nat) t w => t = ((i : Int), ()) ∧ i ≤ fl.length ∧ (∀ x ∈ fl.take i, p x = false) ∧ SH o Γ w) (fun i => fl.length - i) 0 ⟨rfl, by omega, by simp, h⟩ ?_
  clear h
  rintro i _ w cont ⟨rfl, hi, ha, h⟩ hc
  dsimp only
  refine mif_ok (fun g1 => ?_) (fun g1 => ?_)
  · have hlt : i < fl.length := by simp at g1; omega
    refine ixa_ok (s := s) h (by omega) (by omega) fun e ea => ?_
    refine ld_el ea h (List.getElem?_eq_getElem hlt) ?_
    refine hf _ w _ h fun w h => ?_
    refine mif_ok (fun g2 => ?_) (fun g2 => ?_)
    · have := hR w h
      have e : fl.any p = true := List.any_eq_true.2 ⟨_, List.getElem_mem hlt, g2⟩
      rw [e] at this
      have e2 : decide ((i : Int) ≥ 0) = true := by simp
      show R (decide ((i : Int) ≥ 0)) w
      rw [e2]; exact this
    · rw [w64_of (by omega) (by omega)]
      refine hc (i + 1) _ w (by omega) ⟨rfl, hlt, fun x hx => ?_, h⟩
      rw [List.take_add_one, List.getElem?_eq_getElem hlt] at hx
      rcases List.mem_append.1 hx with hx | hx
      · exact ha x hx
      · simp at hx; rw [hx]; exact g2
  · have hi' : i = fl.length := by simp at g1; omega
    subst hi'
    rw [List.take_length] at ha
    have := hR w h
    have e : fl.any p = false := by rw [List.any_eq_false]; intro x hx; rw [ha x hx]; simp
    rw [e] at this
    exact this
theorem Save_ok {R : Int → World → Prop} {l : Sl} {gs : List zT3} {d : Addr} {fs : List DF} {room fuse : Int} (hm : ∀ g ∈ gs, gotOk g) (hlg : gs.length ≤ 4096) (hfs : fs.length ≤ 11) (hno : ∀ q ∈ fs, q.1 ≠ chgNew) (hl : ∀ q ∈ fs, q.2.1.length + q.2.2.length ≤ 1099511627776)
    (hr : 0 ≤ room ∧ room ≤ 1099511627) (hf : I64 fuse) (h : SH o (diskA d fs room fuse false :: Γ) w) [hrd : RdS l zk3 gs Γ]
    (hBad : 0 ≤ fuse ∨ room < blk (encF gs).length → ∀ e fs' room' fuse' off' w', (fs' = fs ∨ ∃ a b, a.length + b.length ≤ 1099511627776 ∧ fs' = fs ++ [(chgNew, a, b)]) → SH o (diskA d fs' room' fuse' off' :: Γ) w' → R e w')
    (hOk : ∀ fs' room' fuse' w', (chg, encF gs, []) ∈ fs' → (∀ q ∈ fs', q = (chg, encF gs, []) ∨ q ∈ fs ∧ q.1 ≠ chg) → fs'.length ≤ fs.length + 1 → ((∀ q ∈ fs, q.1 ≠ chg) → room' = room - blk (encF gs).length) → SH o (diskA d fs' room' fuse' false :: Γ) w' → R 0 w') :
    mcall P n_zf9 [(.pointer (some d)), (.string ⟨chg.toArray⟩), Sl.v l] I R w := by
  apply zf9_call
  have hel := encGs_len hm
  have hvl := vput_len (n := (gs.length : Int)) ⟨by omega, by omega⟩
  have hsl : (encF gs).length = (vput gs.length).length + (encGs gs).length + 4 := by simp [encF, sealed]; omega
  refine bx_ok h fun a w h => ?_
  refine cEncode_ok hm hlg h fun w h => ?_
  refine mif_ok (fun g => by cases g) (fun _ => ?_)
  refine meq_ptr_nil ?_
  refine mif_ok (fun g => by cases g) (fun _ => ?_)
  refine ld_var (a := a) h ?_
  refine cnamed_ok h fun w h => ?_
  refine mif_ok (fun g => by cases g) (fun _ => ?_)
  have h : SH o (diskA d fs room fuse false :: vr a zt4 .s chg :: Γ) w := h.to
  refine Files_ok (by omega) h fun fsl fl w hp h => ?_
  have hfl := hp.length_eq
  simp only [List.length_map] at hfl
  refine ContainsFile_ok (p := fun f => f.1 == chgNew) h (by omega) (fun x w K h hK => ?_) fun w h => ?_
  · show mcall P n_zf1a [KV zk9 x, .pointer (some a)] .b K w
    apply zf1a_call
    refine bx_ok h fun b w h => ?_
    refine ld_fld0 (a := b) (y := x.1) h ?_
    refine ld_var (a := a) h ?_
    refine mcat_ok (by simp [chg]) ?_
    exact hK w h.drop
  have hany : fl.any (fun f => f.1 == chgNew) = false := by
    rw [List.any_eq_false]
    intro f hf
    have hm : f.1 ∈ fs.map (·.1) := hp.mem_iff.1 (List.mem_map_of_mem hf)
    obtain ⟨q, hq, he⟩ := List.mem_map.1 hm
    rw [beq_iff_eq, ← he]; exact hno q hq
  rw [hany]
  refine mif_ok (fun g => by cases g) (fun _ => ?_)
  have h : SH o (diskA d fs room fuse false :: vr a zt4 .s chg :: Γ) w := h.to
  unfold zf9_1
  refine ld_var (a := a) h ?_
  refine mcat_ok (by simp [chg]) ?_
  have ecat : chg ++ [46, 110, 101, 119] = chgNew := rfl
  rw [ecat]
  have hget : ∀ (a b : Bs), (fs ++ [(chgNew, a, b)])[fs.length]? = some (chgNew, a, b) := fun a b => by simp
  refine Append_new chgNew_good hno (by dsimp only; omega) hr hf h (fun g => by cases g) (fun _ g5 w h => ?_) (fun _ _ hz w h => ?_) (fun _ hroom hz w h => ?_)
  · refine mif_ok (fun _ => ?_) (fun g => by cases g)
    refine hBad ?_ _ fs _ _ _ w (.inl rfl) (h.swap.drop)
    rcases g5 with g5 | g5
    · exact .inr g5
    · omega
  · refine mif_ok (fun _ => ?_) (fun g => by cases g)
    exact hBad (.inl (by omega)) _ _ _ _ _ w (.inr ⟨[], encF gs, by simp; omega, rfl⟩) (h.swap.drop)
  refine mif_ok (fun g => by cases g) (fun _ => ?_)
  refine ld_var (a := a) h ?_
  refine mcat_ok (by simp [chg]) ?_
  rw [ecat]
  have hf1 : I64 (fuse1 fuse) := by obtain ⟨f1, f2⟩ := hf; unfold fuse1; split <;> constructor <;> omega
  have hneg : fuse < 0 → fuse1 fuse < 0 := fun h0 => by unfold fuse1; rw [if_neg (by omega)]; exact h0
  refine Sync_ok (i := fs.length) chgNew_good (hget [] (encF gs)) (by simp; omega) hf1 h (fun hz w h => ?_) (fun hz2 w h => ?_)
  · refine mif_ok (fun _ => ?_) (fun g => by cases g)
    exact hBad (.inl (by rcases Int.lt_or_le fuse 0 with h0 | h0
                         · have := hneg h0; omega
                         · exact h0)) _ _ _ _ _ w (.inr ⟨[], encF gs, by simp; omega, rfl⟩) (h.swap.drop)
  refine mif_ok (fun g => by cases g) (fun _ => ?_)
  refine ld_var (a := a) h ?_
  refine mcat_ok (by simp [chg]) ?_
  rw [ecat]
  refine ld_var (a := a) h ?_
  have hset : (fs ++ [(chgNew, [], encF gs)]).set fs.length (chgNew, [] ++ encF gs, []) = fs ++ [(chgNew, encF gs, [])] := by
    rw [List.set_append_right _ _ (Nat.le_refl _)]; simp
  rw [hset] at h
  have hf2 : I64 (fuse1 (fuse1 fuse)) := by obtain ⟨f1, f2⟩ := hf1; unfold fuse1 at *; split <;> constructor <;> omega
  refine Rename_ok (i := fs.length) chgNew_good chg_good (by decide) (hget (encF gs) []) (fun q hq => ?_) hf2 h (fun hz w h => ?_) (fun hz3 fs' room' w g1 g2 g3 g4 h => ?_)
  · rcases List.mem_append.1 hq with hq | hq
    · exact hl q hq
    · simp only [List.mem_singleton] at hq; subst hq; simp; omega
  · exact hBad (.inl (by rcases Int.lt_or_le fuse 0 with h0 | h0
                         · have := hneg h0
                           have : fuse1 (fuse1 fuse) < 0 := by unfold fuse1 at *; split <;> omega
                           omega
                         · exact h0)) _ _ _ _ _ w (.inr ⟨encF gs, [], by simp; omega, rfl⟩) (h.swap.drop)
  · refine hOk fs' room' _ w g1 (fun q hq => ?_) (by simpa using g3) (fun hn => ?_) (h.swap.drop)
    · rcases g2 q hq with rfl | ⟨e1, e2, e3⟩
      · exact .inl rfl
      · rcases List.mem_append.1 e1 with e1 | e1
        · exact .inr ⟨e1, e3⟩
        · simp only [List.mem_singleton] at e1; rw [e1] at e2; exact absurd rfl e2
    · refine g4 fun q hq => ?_
      rcases List.mem_append.1 hq with hq | hq
      · exact hn q hq
      · simp only [List.mem_singleton] at hq; subst hq; exact (by decide : chgNew ≠ chg)
theorem Load_ok {R : (Sl × Int × Unit) → World → Prop} {gs : List zT3} {d : Addr} {fs : List DF} {room fuse : Int} {i : Nat} {su lo : Bs} (hm : ∀ g ∈ gs, gotOk g) (hlg : gs.length ≤ 4096) (hi : fs[i]? = some (chg, su, lo)) (he : su ++ lo = encF gs) (hl : su.length + lo.length ≤ 1099511627776)
    (h : SH o (diskA d fs room fuse false :: Γ) w) (hR : ∀ l w', SH o (slO l ztd zk3 gs :: diskA d fs room fuse false :: Γ) w' → R (l, 0, ()) w') : mcall P n_zfd [(.pointer (some d)), (.string ⟨chg.toArray⟩)] (.tup [.sl, I]) R w := by
  apply zfd_call
  refine meq_ptr_nil ?_
  refine mif_ok (fun g => by cases g) (fun _ => ?_)
  refine cnamed_ok h fun w h => ?_
  refine mif_ok (fun g => by cases g) (fun _ => ?_)
  refine Read_ok chg_good hi hl h fun w h => ?_
  refine mif_ok (fun g => by cases g) (fun _ => ?_)
  rw [he]
  refine cDecode_ok hm hlg h fun l w h => ?_
  exact hR l w h
end
end Go.Proofs.YtpjhflboedicpaaGreatDoor
namespace Go.Proofs.YtpjhflboedicpaaGreatDoor
open Go Go.W
set_option maxRecDepth 100000
section
variable {o : Fix} {Γ Δ : List Assn} {w : World}
theorem SameCells_ok {R : Bool → World → Prop} {a b : Sl} {xs : List zT6} (hx : xs.length ≤ 1099511627776) (h : SH o Γ w) [ha : RdS a zk6 xs Γ] [hb : RdS b zk6 xs Γ] (hR : ∀ w', SH o Γ w' → R true w') : mcall P n_zf1o [Sl.v a, Sl.v b] .b R w := by
  apply zf1o_call
  have la := h.len (s := a)
  have lb := h.len (s := b)
  refine mif_ok (fun g => by simp at g; omega) (fun _ => ?_)
  unfold zf1o_1 zf1o_3 zf1o_4
  refine loop_ok (fun (i : Nat) t w => t = ((i : Int), ()) ∧ i ≤ xs.length ∧ SH o Γ w) (fun i => xs.length - i) 0 ⟨rfl, by omega, h⟩ ?_
  clear h
  rintro i _ w cont ⟨rfl, hi, h⟩ hc
  unfold zf1o_5
  dsimp only
  refine mif_ok (fun g => ?_) (fun g => ?_)
  · have hlt : i < xs.length := by simp at g; omega
    refine mdraw_ok h fun w h => ?_
    refine ixa_ok (s := a) h (by omega) (by omega) fun e ea => ?_
    refine ld_el ea h (List.getElem?_eq_getElem hlt) ?_
    refine ixa_ok (s := b) h (by omega) (by omega) fun e2 eb => ?_
    refine ld_el eb h (List.getElem?_eq_getElem hlt) ?_
    refine mne_kd rfl ?_
    rw [eqB_self]
    refine mif_ok (fun g => by cases g) (fun _ => ?_)
    rw [w64_of (by omega) (by omega)]
    exact hc (i + 1) _ w (by omega) ⟨rfl, hlt, h⟩
  · exact hR w h
theorem Same_ok {R : Bool → World → Prop} {m l b n : Int} {L L' : Sl} {xs : List zT6} (hx : xs.length ≤ 1099511627776) (h : SH o Γ w) [ha : RdS L zk6 xs Γ] [hb : RdS L' zk6 xs Γ] (hR : ∀ w', SH o Γ w' → R true w') :
    mcall P n_zfg [KV zk1 (m, l, b, n, L, ()), KV zk1 (m, l, b, n, L', ())] .b R w := by
  apply zfg_call
  refine bx_ok h fun a w h => ?_
  refine bx_ok h fun c w h => ?_
  refine ld_fld0 (a := a) h ?_
  refine ld_fld0 (a := c) h ?_
  refine mif_ok (fun _ => ?_) (fun g => by simp at g)
  refine ld_fld (a := a) h ?_
  refine ld_fld (a := c) h ?_
  refine mif_ok (fun _ => ?_) (fun g => by simp at g)
  refine ld_fld (a := a) h ?_
  refine ld_fld (a := c) h ?_
  refine mif_ok (fun _ => ?_) (fun g => by simp at g)
  refine ld_fld (a := a) h ?_
  refine ld_fld (a := c) h ?_
  refine mif_ok (fun _ => ?_) (fun g => by simp at g)
  refine ld_fld (a := a) h ?_
  refine ld_fld (a := c) h ?_
  refine SameCells_ok hx h fun w h => ?_
  exact hR w h.drop.drop
theorem bare_ok {R : Sl → World → Prop} {l : Sl} {gs : List zT3} (hl : gs.length ≤ 1073741824) (h : SH o Γ w) [hr : RdS l zk3 gs Γ] (hR : ∀ r w', SH o (slO r ztc zk2 (gs.map (·.2.1)) :: Γ) w' → R r w') : mcall P n_zff [Sl.v l] .sl R w := by
  apply zff_call
  have hlen := h.len (s := l)
  unfold zff_0 zff_1 zff_3 zff_4
  have h := h.nilS ztc zk2
  refine loop_ok (fun (i : Nat) t w => ∃ out, t = (out, (i : Int), ()) ∧ i ≤ gs.length ∧ SH o (slO out ztc zk2 ((gs.take i).map (·.2.1)) :: Γ) w) (fun i => gs.length - i) 0 ⟨_, rfl, by omega, h⟩ ?_
  clear h
  rintro i _ w cont ⟨out, rfl, hi, h⟩ hc
  unfold zff_5
  dsimp only
  refine mif_ok (fun g => ?_) (fun g => ?_)
  · have hlt : i < gs.length := by simp at g; omega
    refine ixa_ok (s := l) h (by omega) (by omega) fun e ea => ?_
    refine ld_elf (n := 1) (k' := zk2) (y := gs[i].2.1) ea h (List.getElem?_eq_getElem hlt) ?_
    refine bsl_ok h fun u w h => ?_
    refine app_ok h (by simp; omega) (fun y _ => okV_plain rfl y) fun r w h => ?_
    rw [w64_of (by omega) (by omega)]
    refine hc (i + 1) _ w (by omega) ⟨r, rfl, hlt, ?_⟩
    have htk : gs.take (i + 1) = gs.take i ++ [gs[i]] := by rw [List.take_add_one, List.getElem?_eq_getElem hlt]; rfl
    rw [htk, List.map_append]
    exact h.swap.drop
  · have hi' : i = gs.length := by simp at g; omega
    subst hi'
    rw [List.take_length] at h
    exact hR out w h
theorem Some_ok {R : Sl → World → Prop} {l : Sl} {rs : List Rec} (h : SH o Γ w) [hr : RdS l zk2 rs Γ]
    (hR : ∀ r rs' w', rs'.length ≤ 150 → (∀ x ∈ rs', x.2.2.1.length ≤ 50) → SH o (slO r ztc zk2 rs' :: Γ) w' → R r w') : mcall P n_zf1 [Sl.v l] .sl R w := by
  apply zf1_call
  have hlen := h.len (s := l)
  have one : ∀ (l : Sl) (rs : List Rec) w, RdS l zk2 rs Γ → rs.length ≤ 150 → SH o Γ w → zf1_1 R l w := by
    intro l rs w hr hl h
    have hlen := h.len (s := l)
    unfold zf1_1 zf1_2 zf1_4 zf1_5
    have h := h.nilS ztc zk2
    refine loop_ok (fun (i : Nat) t w => ∃ out os, t = (out, (i : Int), ()) ∧ i ≤ rs.length ∧ os.length = i ∧ (∀ x ∈ os, x.2.2.1.length ≤ 50) ∧ SH o (slO out ztc zk2 os :: Γ) w) (fun i => rs.length - i) 0 ⟨_, [], rfl, by omega, rfl, by simp, h⟩ ?_
    clear h
    rintro i _ w cont ⟨out, os, rfl, hi, hol, hos, h⟩ hc
    unfold zf1_6
    dsimp only
    refine mif_ok (fun g => ?_) (fun g => ?_)
    · have hlt : i < rs.length := by simp at g; omega
      refine ixa_ok (s := l) h (by omega) (by omega) fun e ea => ?_
      refine ld_el ea h (List.getElem?_eq_getElem hlt) ?_
      refine alo_ok h fun a w h => ?_
      refine sto_var (a := a) h fun w h => ?_
      refine ld_fld (a := a) (n := 2) (k' := .s) (y := rs[i].2.2.1) h ?_
      refine mif_ok (fun g => ?_) (fun g => ?_)
      · have hgt : 50 < rs[i].2.2.1.length := by simp at g; omega
        refine ld_fld (a := a) (n := 2) (k' := .s) (y := rs[i].2.2.1) h ?_
        refine sls_to (by omega) (by omega) ?_
        refine sto_fld (a := a) (n := 2) (k' := .s) h fun w h => ?_
        have h : SH o (vr a ztc zk2 (rs[i].1, rs[i].2.1, rs[i].2.2.1.take (50 : Int).toNat, ()) :: slO out ztc zk2 os :: Γ) w := h
        refine ld_var (a := a) h ?_
        refine bsl_ok h fun u w h => ?_
        refine app_ok h (by simp; omega) (fun y _ => okV_plain rfl y) fun r w h => ?_
        unfold zf1_7
        rw [w64_of (by omega) (by omega)]
        refine hc (i + 1) _ w (by omega) ⟨r, os ++ [(rs[i].1, rs[i].2.1, rs[i].2.2.1.take (50 : Int).toNat, ())], rfl, hlt, by simp; omega, fun x hx => ?_, h.swap.drop.swap.drop⟩
        rcases List.mem_append.1 hx with hx | hx
        · exact hos x hx
        · simp only [List.mem_singleton] at hx; subst hx; simp only [List.length_take]; omega
      · have hle : rs[i].2.2.1.length ≤ 50 := by simp at g; omega
        refine ld_var (a := a) h ?_
        refine bsl_ok h fun u w h => ?_
        refine app_ok h (by simp; omega) (fun y _ => okV_plain rfl y) fun r w h => ?_
        unfold zf1_7
        rw [w64_of (by omega) (by omega)]
        refine hc (i + 1) _ w (by omega) ⟨r, os ++ [rs[i]], rfl, hlt, by simp; omega, fun x hx => ?_, h.swap.drop.swap.drop⟩
        rcases List.mem_append.1 hx with hx | hx
        · exact hos x hx
        · simp only [List.mem_singleton] at hx; subst hx; exact hle
    · unfold zf1_3
      exact hR out os w (by omega) hos h
  refine mif_ok (fun g => ?_) (fun g => ?_)
  · have hgt : 150 < rs.length := by simp at g; omega
    have hcap := (h.rd (s := l)).2.1
    refine slc_ok (k := zk2) (by simp) (by simp) (by simp; omega) ?_
    show zf1_1 R (cut l zk2 0 150) w
    refine one _ ((rs.drop 0).take (150 - 0)) w ?_ (by simp; omega) h
    exact RdS.cut hr (by omega) (by omega)
  · exact one l rs w hr (by simp at g; omega) h
end
end Go.Proofs.YtpjhflboedicpaaGreatDoor
namespace Go.Proofs.YtpjhflboedicpaaGreatDoor
open Go Go.W
set_option maxRecDepth 100000
theorem StOk.more {g : zT0} {N M mk lt bd n : Int} {xs : List zT6} (h : StOk g N mk lt bd n xs) (h1 : N ≤ M) (h2 : M ≤ 1073741824) : StOk g M mk lt bd n xs :=
  ⟨h.gk, h.mrk, by have := h.cnt; omega, h2, h.len, h.srt, fun c hc => (h.cell c hc).more (by omega), h.opn⟩
theorem diffC_mem : ∀ {xs ys : List Cl} {c : Ch}, c ∈ diffC xs ys → (∃ x ∈ xs, c = .gone x) ∨ ∃ y ∈ ys, c = .here y
  | [], [], c, h => by rw [diffC] at h; cases h
  | x :: xs, [], c, h => by
    rw [diffC] at h
    rcases List.mem_cons.1 h with rfl | h
    · exact .inl ⟨x, List.mem_cons_self .., rfl⟩
    · rcases diffC_mem h with ⟨y, hy, e⟩ | ⟨y, hy, e⟩
      · exact .inl ⟨y, List.mem_cons_of_mem _ hy, e⟩
      · exact .inr ⟨y, hy, e⟩
  | [], y :: ys, c, h => by
    rw [diffC] at h
    rcases List.mem_cons.1 h with rfl | h
    · exact .inr ⟨y, List.mem_cons_self .., rfl⟩
    · rcases diffC_mem h with ⟨z, hz, e⟩ | ⟨z, hz, e⟩
      · exact .inl ⟨z, hz, e⟩
      · exact .inr ⟨z, List.mem_cons_of_mem _ hz, e⟩
  | x :: xs, y :: ys, c, h => by
    have lift : ∀ {xs' ys' : List Cl}, (∀ z ∈ xs', z ∈ x :: xs) → (∀ z ∈ ys', z ∈ y :: ys) → ((∃ x ∈ xs', c = Ch.gone x) ∨ ∃ y ∈ ys', c = Ch.here y) → (∃ z ∈ x :: xs, c = Ch.gone z) ∨ ∃ z ∈ y :: ys, c = Ch.here z := fun {xs' ys'} h1 h2 h => h.imp (fun ⟨z, hz, e⟩ => ⟨z, h1 z hz, e⟩) fun ⟨z, hz, e⟩ => ⟨z, h2 z hz, e⟩
    rw [diffC] at h
    split at h
    · rcases List.mem_cons.1 h with rfl | h
      · exact .inl ⟨x, List.mem_cons_self .., rfl⟩
      · exact lift (fun z => List.mem_cons_of_mem _) (fun z h => h) (diffC_mem h)
    · split at h
      · rcases List.mem_cons.1 h with rfl | h
        · exact .inr ⟨y, List.mem_cons_self .., rfl⟩
        · exact lift (fun z h => h) (fun z => List.mem_cons_of_mem _) (diffC_mem h)
      · split at h
        · exact lift (fun z => List.mem_cons_of_mem _) (fun z => List.mem_cons_of_mem _) (diffC_mem h)
        · rcases List.mem_cons.1 h with rfl | h
          · exact .inr ⟨y, List.mem_cons_self .., rfl⟩
          · exact lift (fun z => List.mem_cons_of_mem _) (fun z => List.mem_cons_of_mem _) (diffC_mem h)
  termination_by xs ys => xs.length + ys.length
theorem diffC_len : ∀ (xs ys : List Cl), (diffC xs ys).length ≤ xs.length + ys.length
  | [], [] => by rw [diffC]; simp
  | x :: xs, [] => by rw [diffC]; have := diffC_len xs []; simp at this ⊢; omega
  | [], y :: ys => by rw [diffC]; have := diffC_len [] ys; simp at this ⊢; omega
  | x :: xs, y :: ys => by
    rw [diffC]
    split
    · have := diffC_len xs (y :: ys); simp at this ⊢; omega
    · split
      · have := diffC_len (x :: xs) ys; simp at this ⊢; omega
      · split
        · have := diffC_len xs ys; simp; omega
        · have := diffC_len xs ys; simp; omega
  termination_by xs ys => xs.length + ys.length
theorem diffS_len (m l b n m' l' b' n' : Int) (xs ys : List Cl) : (diffS m l b n m' l' b' n' xs ys).length ≤ 1 + xs.length + ys.length := by
  have := diffC_len xs ys
  unfold diffS
  rw [List.length_append]
  split <;> simp <;> omega
theorem diffS_steps {m l b n m' l' b' n' : Int} {xs ys : List Cl} (hx : SortedC xs) (hy : SortedC ys) : stepsC (m, l, b, n, xs) (diffS m l b n m' l' b' n' xs ys) = some (m', l', b', n', ys) := by
  have hd := diffC_steps m' l' b' n' xs ys [] hx hy
  simp only [List.nil_append] at hd
  unfold diffS
  split
  · rename_i e
    obtain ⟨rfl, rfl, rfl, rfl⟩ := e
    exact hd
  · rw [List.singleton_append, stepsC, stepC]
    exact hd
def chGood (c : Ch) : Prop := chOk c ∧ mayRec (chRec c) = true ∧ (chRec c).2.2.1.length ≤ 110
theorem diffS_good {g : zT0} {N M m l b n m' l' b' n' : Int} {xs ys : List Cl} (hx : StOk g N m l b n xs) (hy : StOk g M m' l' b' n' ys) : ∀ c ∈ diffS m l b n m' l' b' n' xs ys, chGood c := by
  intro c hc
  unfold diffS at hc
  rcases List.mem_append.1 hc with hc | hc
  · split at hc
    · cases hc
    · simp only [List.mem_singleton] at hc
      subst hc
      obtain ⟨q1, q2, q3, q4⟩ := hy.cnt
      obtain ⟨q5, q6⟩ := hy.mrk
      have q7 := hy.Nb
      have hI : ∀ x ∈ [0, m', l', b', n'], I64 x := by
        intro x hx; simp only [List.mem_cons, List.not_mem_nil, or_false] at hx
        rcases hx with rfl | rfl | rfl | rfl | rfl <;> constructor <;> omega
      have hlen := putAll_len hI
      simp only [List.length_cons, List.length_nil] at hlen
      refine ⟨⟨⟨by omega, by omega⟩, ⟨by omega, by omega⟩, ⟨by omega, by omega⟩, by omega, by omega⟩, ?_, ?_⟩
      · have h2 : (putAll [0, m', l', b', n']).length ≤ 512 := by omega
        simp [mayRec, chRec, inB, h2]
      · show (putAll [0, m', l', b', n']).length ≤ 110; omega
  · rcases diffC_mem hc with ⟨x, hxm, rfl⟩ | ⟨y, hym, rfl⟩
    · obtain ⟨⟨q1, q2, q3, q4, q5, q6⟩, _, _⟩ := hx.cell x hxm
      have hl1 := vput_len (n := 2) ⟨by omega, by omega⟩
      refine ⟨trivial, ?_, ?_⟩
      · have h2 : (vput 2).length ≤ 512 := by omega
        simp [mayRec, chRec, inB, h2, q1, q2, q3, q4]
      · show (vput 2).length ≤ 110; omega
    · obtain ⟨⟨q1, q2, q3, q4, q5, q6⟩, hag, _⟩ := hy.cell y hym
      have hl := putAll_len (agL_i64 hag)
      have hl1 := vput_len (n := 1) ⟨by omega, by omega⟩
      have hl10 : (agL y.2.2.1).length = 10 := rfl
      refine ⟨hag, ?_, ?_⟩
      · have h2 : (vput 1 ++ putAll (agL y.2.2.1)).length ≤ 512 := by rw [List.length_append]; omega
        rw [List.length_append] at h2
        simp [mayRec, chRec, inB, h2, q1, q2, q3, q4]
      · show (vput 1 ++ putAll (agL y.2.2.1)).length ≤ 110; rw [List.length_append]; omega
def numC : Nat → List Ch → List (Int × Ch)
  | _, [] => []
  | k, c :: cs => ((k : Int), c) :: numC (k + 1) cs
theorem numC_len : ∀ (k : Nat) (cs : List Ch), (numC k cs).length = cs.length
  | _, [] => rfl
  | k, c :: cs => by simp [numC, numC_len (k + 1) cs]
theorem numC_append : ∀ (k : Nat) (cs ds : List Ch), numC k (cs ++ ds) = numC k cs ++ numC (k + cs.length) ds
  | k, [], ds => by simp [numC]
  | k, c :: cs, ds => by
    rw [List.cons_append, numC, numC, numC_append (k + 1) cs ds]
    simp only [List.length_cons, List.cons_append]
    congr 3; omega
theorem numC_snd : ∀ (k : Nat) (cs : List Ch), (numC k cs).map (·.2) = cs
  | _, [] => rfl
  | k, c :: cs => by simp [numC, numC_snd (k + 1) cs]
theorem numC_mem : ∀ {k : Nat} {cs : List Ch} {g : Int × Ch}, g ∈ numC k cs → (k : Int) ≤ g.1 ∧ g.1 < k + cs.length ∧ g.2 ∈ cs
  | _, [], g, h => by cases h
  | k, c :: cs, g, h => by
    rw [numC] at h
    rcases List.mem_cons.1 h with rfl | h
    · simp; omega
    · obtain ⟨h1, h2, h3⟩ := numC_mem h
      simp only [List.length_cons]
      exact ⟨by omega, by omega, List.mem_cons_of_mem _ h3⟩
theorem numC_lt : ∀ (k : Nat) (cs : List Ch), (numC k cs).Pairwise fun a b => a.1 < b.1
  | _, [] => .nil
  | k, c :: cs => by
    rw [numC]
    refine List.pairwise_cons.2 ⟨fun g hg => ?_, numC_lt (k + 1) cs⟩
    have := (numC_mem hg).1
    simp only; omega
structure Gd (F : Sta) (gs : List (Int × Ch)) : Prop where
  len : gs.length ≤ 3129
  good : ∀ g ∈ gs, chGood g.2 ∧ 0 ≤ g.1 ∧ g.1 ≤ 1099511627776
  lt : gs.Pairwise fun a b => a.1 < b.1
  st : stepsC zeroS (gs.map (·.2)) = some F
theorem Gd.clean {F : Sta} {gs : List (Int × Ch)} (h : Gd F gs) (u : Int) : Gd F (cleanU u gs) :=
  ⟨Nat.le_trans (cleanU_sub u gs).length_le h.len, fun g hg => h.good g ((cleanU_sub u gs).subset hg), h.lt.sublist (cleanU_sub u gs), cleanU_steps h.lt h.st⟩
theorem Gd.ok {F : Sta} {gs : List (Int × Ch)} (h : Gd F gs) : ∀ g ∈ gs.map gotOf, gotOk g := by
  intro g hg
  obtain ⟨x, hx, rfl⟩ := List.mem_map.1 hg
  obtain ⟨h1, h2, h3⟩ := h.good x hx
  exact ⟨h1.2.1, h2, h3⟩
theorem encG_short {g : Int × Ch} (h : chGood g.2) (h0 : 0 ≤ g.1) (h1 : g.1 ≤ 1099511627776) : (encG (gotOf g)).length ≤ 150 := by
  obtain ⟨_, hm, hl⟩ := h
  obtain ⟨g1, g2, g3⟩ := mayRec_spec hm
  have e1 := vput_len (n := g.1) ⟨by omega, by omega⟩
  have e2 := putAll_len (l := [(chRec g.2).1, (chRec g.2).2.1]) (by intro n hn; simp only [List.mem_cons, List.not_mem_nil, or_false] at hn; rcases hn with rfl | rfl <;> constructor <;> omega)
  have e3 := vput_len (n := ((chRec g.2).2.2.1.length : Int)) ⟨by omega, by omega⟩
  simp only [List.length_cons, List.length_nil] at e2
  show (vput g.1 ++ (putAll [(chRec g.2).1, (chRec g.2).2.1] ++ ptext (chRec g.2).2.2.1)).length ≤ 150
  unfold ptext
  simp only [List.length_append]
  omega
theorem encGs_short : ∀ {gs : List (Int × Ch)}, (∀ g ∈ gs, chGood g.2 ∧ 0 ≤ g.1 ∧ g.1 ≤ 1099511627776) → (encGs (gs.map gotOf)).length ≤ 150 * gs.length
  | [], _ => by simp [encGs]
  | g :: gs, h => by
    obtain ⟨h1, h2, h3⟩ := h g (List.mem_cons_self ..)
    have e1 := encG_short h1 h2 h3
    have e2 := encGs_short (gs := gs) fun x hx => h x (List.mem_cons_of_mem _ hx)
    unfold encGs at e2 ⊢
    rw [List.map_cons, List.flatMap_cons, List.length_append, List.length_cons]
    omega
theorem Gd.blk {F : Sta} {gs : List (Int × Ch)} (h : Gd F gs) : blk (encF (gs.map gotOf)).length ≤ 7335 ∧ 1 ≤ blk (encF (gs.map gotOf)).length := by
  have e1 := encGs_short h.good
  have e2 := h.len
  have e3 := vput_len (n := ((gs.map gotOf).length : Int)) ⟨by omega, by rw [List.length_map]; omega⟩
  have hsl : (encF (gs.map gotOf)).length = (vput (gs.map gotOf).length).length + (encGs (gs.map gotOf)).length + 4 := by simp [encF, sealed]; omega
  refine ⟨?_, (blk_pos _).1⟩
  unfold Go.Proofs.YtpjhflboedicpaaGreatDoor.blk mx
  split <;> omega
end Go.Proofs.YtpjhflboedicpaaGreatDoor
namespace Go.Proofs.YtpjhflboedicpaaGreatDoor
open Go Go.W
set_option maxRecDepth 100000
theorem bare_map (gs : List (Int × Ch)) : (gs.map gotOf).map (·.2.1) = (gs.map (·.2)).map chRec := by simp [gotOf]
section
variable {o : Fix} {Γ Δ : List Assn} {w : World}
theorem TC5_ok {R : Bool → World → Prop} {mk lt bd n : Int} {L L1 L2 : Sl} {xs : List zT6} {a7 s t : Addr} (hx : xs.length ≤ 1099511627776)
    (h : SH o (vr t zt9 zk1 (mk, lt, bd, n, L2, ()) :: slR L2 zk6 xs :: vr s zt9 zk1 (mk, lt, bd, n, L1, ()) :: slR L1 zk6 xs :: vr a7 zt9 zk1 (mk, lt, bd, n, L, ()) :: slR L zk6 xs :: Γ) w)
    (hR : ∀ w', SH o Γ w' → R true w') : zf0_5 R a7 0 s 0 t 0 w := by
  unfold zf0_5
  refine mif_ok (fun _ => ?_) (fun g => by cases g)
  refine mif_ok (fun _ => ?_) (fun g => by cases g)
  refine mif_ok (fun _ => ?_) (fun g => by cases g)
  refine ld_var (a := s) h ?_
  refine ld_var (a := a7) h ?_
  refine Same_ok (L := L1) (L' := L) hx h fun w h => ?_
  refine mif_ok (fun _ => ?_) (fun g => by cases g)
  refine ld_var (a := t) h ?_
  refine ld_var (a := a7) h ?_
  refine Same_ok (L := L2) (L' := L) hx h fun w h => ?_
  refine mif_ok (fun _ => ?_) (fun g => by cases g)
  refine awake17_ok h fun w h => ?_
  exact hR w h.to
theorem TC4_ok {R : Bool → World → Prop} {g : zT0} {N mk lt bd n u : Int} {L L1 M : Sl} {xs : List zT6} {gs : List (Int × Ch)} {a1 a7 s : Addr} (hs : StOk g N mk lt bd n xs) (hg : Gd (mk, lt, bd, n, xs) gs)
    (h : SH o (vr s zt9 zk1 (mk, lt, bd, n, L1, ()) :: slR L1 zk6 xs :: vr a7 zt9 zk1 (mk, lt, bd, n, L, ()) :: slR L zk6 xs :: slO M ztd zk3 (gs.map gotOf) :: vr a1 zt5 zk0 g :: Γ) w)
    (hR : ∀ w', SH o Γ w' → R true w') : zf0_4 R u a1 a7 M 0 s 0 w := by
  have hx64 := hs.len
  have hgl := hg.len
  have hc := hg.clean u
  have hcl := hc.len
  have res : ∀ {Γ' : List Assn} {X : Sl} {K : (zT1 × Int × Unit) → World → Prop} w, SH o Γ' w → RdS X zk2 (((cleanU u gs).map gotOf).map (·.2.1)) Γ' → (∀ L2 w', SH o (slR L2 zk6 xs :: Γ') w' → K ((mk, lt, bd, n, L2, ()), 0, ()) w') →
      mcall P n_zfe [KV zk0 g, Sl.v X] (.tup [zk1, I]) K w := by
    intro Γ' X K w h hrd hK
    rw [bare_map] at hrd
    exact Restore_ok (cs := (cleanU u gs).map fun q : Int × Ch => q.2) (fun c hm => by obtain ⟨x, hx, rfl⟩ := List.mem_map.1 hm; exact (hc.good x hx).1.1) hc.st hs (by rw [List.length_map]; omega) h hK
  unfold zf0_4
  refine mdraw_ok h fun w h => ?_
  refine ld_var (a := a1) h ?_
  have hm : ∀ g ∈ gs, mayRec (chRec g.2) = true := fun g hm => (hg.good g hm).1.2.1
  have ord1 : ∀ {X : Sl} w, SH o (slO X ztc zk2 (((cleanU u gs).map gotOf).map (·.2.1)) :: vr s zt9 zk1 (mk, lt, bd, n, L1, ()) :: slR L1 zk6 xs :: vr a7 zt9 zk1 (mk, lt, bd, n, L, ()) :: slR L zk6 xs :: vr a1 zt5 zk0 g :: Γ) w →
      (mcall P n_zfe [(KV zk0 g), (Sl.v X)] (.tup [zk1, I]) fun (x29 : zT1 × Int × Unit) => alo P zt9 fun a30 => sto P zt9 a30 zk1 x29.1 <| zf0_5 R a7 0 s 0 a30 x29.2.1) w := by
    intro X w h
    refine res w h inferInstance fun L2 w h => ?_
    refine alo_ok h fun t w h => ?_
    refine sto_var (a := t) h fun w h => ?_
    exact TC5_ok (mk := mk) (lt := lt) (bd := bd) (n := n) (L := L) (L1 := L1) (L2 := L2) (xs := xs) (by omega) (Γ := Γ) h.to hR
  have ord2 : ∀ {X : Sl} {t : Addr} w, SH o (slO X ztc zk2 (((cleanU u gs).map gotOf).map (·.2.1)) :: vr t zt9 zk1 (0, 0, 0, 0, ⟨none, 0, 0⟩, ()) :: vr s zt9 zk1 (mk, lt, bd, n, L1, ()) :: slR L1 zk6 xs :: vr a7 zt9 zk1 (mk, lt, bd, n, L, ()) :: slR L zk6 xs :: vr a1 zt5 zk0 g :: Γ) w →
      (mcall P n_zfe [(KV zk0 g), (Sl.v X)] (.tup [zk1, I]) fun (x29 : zT1 × Int × Unit) => sto P zt9 t zk1 x29.1 <| zf0_5 R a7 0 s 0 t x29.2.1) w := by
    intro X t w h
    refine res w h inferInstance fun L2 w h => ?_
    refine sto_var (a := t) h fun w h => ?_
    exact TC5_ok (mk := mk) (lt := lt) (bd := bd) (n := n) (L := L) (L1 := L1) (L2 := L2) (xs := xs) (by omega) (Γ := Γ) h.to hR
  refine ⟨?_, ?_⟩
  · refine Clean_ok hm (by omega) h fun c w h => ?_
    refine mst_var (a := a1) h ?_
    refine ⟨?_, ?_⟩
    · refine bare_ok (by rw [List.length_map]; omega) h fun X w h => ?_
      refine mst_var (a := a1) h ?_
      refine ⟨ord1 w h.to, ?_⟩
      refine alo_ok h fun t w h => ?_
      refine mst_var (a := a1) h ?_
      exact ord2 w h.to
    · refine alo_ok h fun t w h => ?_
      refine mst_var (a := a1) h ?_
      refine bare_ok (by rw [List.length_map]; omega) h fun X w h => ?_
      refine mst_var (a := a1) h ?_
      exact ord2 w h.to
  · refine alo_ok h fun t w h => ?_
    refine mst_var (a := a1) h ?_
    refine Clean_ok hm (by omega) h fun c w h => ?_
    refine mst_var (a := a1) h ?_
    refine bare_ok (by rw [List.length_map]; omega) h fun X w h => ?_
    refine mst_var (a := a1) h ?_
    exact ord2 w h.to
theorem TCread_ok {R : Bool → World → Prop} {g : zT0} {N mk lt bd n u : Int} {L M : Sl} {xs : List zT6} {gs : List (Int × Ch)} {a1 a7 : Addr} (hs : StOk g N mk lt bd n xs) (hg : Gd (mk, lt, bd, n, xs) gs)
    (h : SH o (vr a7 zt9 zk1 (mk, lt, bd, n, L, ()) :: slR L zk6 xs :: slO M ztd zk3 (gs.map gotOf) :: vr a1 zt5 zk0 g :: Γ) w)
    (hR : ∀ w', SH o Γ w' → R true w') :
    (mdraw <|
 ld P zt5 a1 zk0 fun (x17 : zT0) =>
 fun w => (mcall P n_zff [(Sl.v M)] .sl fun (x18 : Sl) =>
 mst P (Instr.loadAt zt5 (.pointer (some a1))) (.agg #[.int .i64 x17.1, .int .i64 x17.2.1, .int .i64 x17.2.2.1]) <|
 fun w => (mcall P n_zfe [(KV zk0 x17), (Sl.v x18)] (.tup [zk1, I]) fun (x19 : zT1 × Int × Unit) =>
 alo P zt9 fun a20 =>
 sto P zt9 a20 zk1 x19.1 <|
 zf0_4 R u a1 a7 M 0 a20 x19.2.1) w ∧
 (alo P zt9 fun a21 =>
 mst P (Instr.loadAt zt5 (.pointer (some a1))) (.agg #[.int .i64 x17.1, .int .i64 x17.2.1, .int .i64 x17.2.2.1]) <|
 mcall P n_zfe [(KV zk0 x17), (Sl.v x18)] (.tup [zk1, I]) fun (x22 : zT1 × Int × Unit) =>
 sto P zt9 a21 zk1 x22.1 <|
 zf0_4 R u a1 a7 M 0 a21 x22.2.1) w) w ∧
 (alo P zt9 fun a23 =>
 mst P (Instr.loadAt zt5 (.pointer (some a1))) (.agg #[.int .i64 x17.1, .int .i64 x17.2.1, .int .i64 x17.2.2.1]) <|
 mcall P n_zff [(Sl.v M)] .sl fun (x24 : Sl) =>
 mst P (Instr.loadAt zt5 (.pointer (some a1))) (.agg #[.int .i64 x17.1, .int .i64 x17.2.1, .int .i64 x17.2.2.1]) <|
 mcall P n_zfe [(KV zk0 x17), (Sl.v x24)] (.tup [zk1, I]) fun (x25 : zT1 × Int × Unit) =>
 sto P zt9 a23 zk1 x25.1 <|
 zf0_4 R u a1 a7 M 0 a23 x25.2.1) w) w := by
  have hgl := hg.len
  have res : ∀ {Γ' : List Assn} {X : Sl} {K : (zT1 × Int × Unit) → World → Prop} w, SH o Γ' w → RdS X zk2 ((gs.map gotOf).map (·.2.1)) Γ' → (∀ L2 w', SH o (slR L2 zk6 xs :: Γ') w' → K ((mk, lt, bd, n, L2, ()), 0, ()) w') →
      mcall P n_zfe [KV zk0 g, Sl.v X] (.tup [zk1, I]) K w := by
    intro Γ' X K w h hrd hK
    rw [bare_map] at hrd
    exact Restore_ok (cs := gs.map fun q : Int × Ch => q.2) (fun c hm => by obtain ⟨x, hx, rfl⟩ := List.mem_map.1 hm; exact (hg.good x hx).1.1) hg.st hs (by rw [List.length_map]; omega) h hK
  refine mdraw_ok h fun w h => ?_
  refine ld_var (a := a1) h ?_
  refine ⟨?_, ?_⟩
  · refine bare_ok (by rw [List.length_map]; omega) h fun X w h => ?_
    refine mst_var (a := a1) h ?_
    refine ⟨?_, ?_⟩
    · refine res w h inferInstance fun L1 w h => ?_
      refine alo_ok h fun s w h => ?_
      refine sto_var (a := s) h fun w h => ?_
      exact TC4_ok (L := L) (L1 := L1) (Γ := Γ) hs hg h.to hR
    · refine alo_ok h fun s w h => ?_
      refine mst_var (a := a1) h ?_
      refine res w h inferInstance fun L1 w h => ?_
      refine sto_var (a := s) h fun w h => ?_
      exact TC4_ok (L := L) (L1 := L1) (Γ := Γ) hs hg h.to hR
  · refine alo_ok h fun s w h => ?_
    refine mst_var (a := a1) h ?_
    refine bare_ok (by rw [List.length_map]; omega) h fun X w h => ?_
    refine mst_var (a := a1) h ?_
    refine res w h inferInstance fun L1 w h => ?_
    refine sto_var (a := s) h fun w h => ?_
    exact TC4_ok (L := L) (L1 := L1) (Γ := Γ) hs hg h.to hR
end
end Go.Proofs.YtpjhflboedicpaaGreatDoor
namespace Go.Proofs.YtpjhflboedicpaaGreatDoor
open Go Go.W
set_option maxRecDepth 100000
section
variable {o : Fix} {Γ Δ : List Assn} {w : World}
theorem fuse_bound (x : Int) : I64 (mx (x.tmod 6) (-1)) := by
  have h1 := Int.tmod_lt_of_pos x (show (0 : Int) < 6 by omega)
  have h2 := Int.lt_tmod_of_pos x (show (0 : Int) < 6 by omega)
  unfold mx; constructor <;> split <;> omega
theorem TC3_ok {R : Bool → World → Prop} {g : zT0} {N mk lt bd n u fz room fu : Int} {L A kp : Sl} {ks : List Int} {xs : List zT6} {gs : List (Int × Ch)} {a1 a7 d : Addr} (hs : StOk g N mk lt bd n xs) (hg : Gd (mk, lt, bd, n, xs) gs) (hr : 0 ≤ room ∧ room ≤ 16384)
    (h : SH o (diskA d [(chg, encF (gs.map gotOf), [])] room fu false :: slO A ztd zk3 (gs.map gotOf) :: vr a7 zt9 zk1 (mk, lt, bd, n, L, ()) :: slR L zk6 xs :: vr a1 zt5 zk0 g :: Γ) w)
    [hk : RdS kp I ks Γ] (hR : ∀ w', SH o Γ w' → R true w') : zf0_3 R u fz kp a1 a7 A (some d) w := by
  have hgl := hg.len
  have hc := hg.clean u
  have hcl := hc.len
  have hlen : ∀ {hs : List (Int × Ch)}, Gd (mk, lt, bd, n, xs) hs → (encF (hs.map gotOf)).length ≤ 1099511627776 := fun {hs} hd => by
    have e1 := encGs_short hd.good
    have e2 := hd.len
    have e3 := vput_len (n := ((hs.map gotOf).length : Int)) ⟨by omega, by rw [List.length_map]; omega⟩
    have hsl : (encF (hs.map gotOf)).length = (vput (hs.map gotOf).length).length + (encGs (hs.map gotOf)).length + 4 := by simp [encF, sealed]; omega
    omega
  unfold zf0_3
  refine Fuse_ok h fun w h => ?_
  refine Clean_ok (fun g hm => (hg.good g hm).1.2.1) (by omega) h fun c w h => ?_
  have h : SH o (diskA d [(chg, encF (gs.map gotOf), [])] room (mx ((w64 ((fz.tmod 6) + 6)).tmod 6) (-1)) false :: slO c ztd zk3 ((cleanU u gs).map gotOf) :: vr a7 zt9 zk1 (mk, lt, bd, n, L, ()) :: slR L zk6 xs :: vr a1 zt5 zk0 g :: Γ) w := h.to
  -- behind the power's going
  have crash : ∀ (fs : List DF) (room' fuse' : Int) (off' : Bool) (hs' : List (Int × Ch)) (i : Nat) w, fs.length ≤ 12 → (∀ q ∈ fs, q.2.1.length + q.2.2.length ≤ 1099511627776) → fs[i]? = some (chg, encF (hs'.map gotOf), []) → Gd (mk, lt, bd, n, xs) hs' →
      SH o (diskA d fs room' fuse' off' :: slO c ztd zk3 ((cleanU u gs).map gotOf) :: vr a7 zt9 zk1 (mk, lt, bd, n, L, ()) :: slR L zk6 xs :: vr a1 zt5 zk0 g :: Γ) w →
      (mcall P n_zfc [(.pointer (some d)), (Sl.v kp)] (.tup []) fun (x15 : Unit) =>
 mcall P n_zfd [(.pointer (some d)), (.string ⟨[99, 104, 103].toArray⟩)] (.tup [.sl, I]) fun (x16 : Sl × Int × Unit) =>
 mdraw <|
 ld P zt5 a1 zk0 fun (x17 : zT0) =>
 fun w => (mcall P n_zff [(Sl.v x16.1)] .sl fun (x18 : Sl) =>
 mst P (Instr.loadAt zt5 (.pointer (some a1))) (.agg #[.int .i64 x17.1, .int .i64 x17.2.1, .int .i64 x17.2.2.1]) <|
 fun w => (mcall P n_zfe [(KV zk0 x17), (Sl.v x18)] (.tup [zk1, I]) fun (x19 : zT1 × Int × Unit) =>
 alo P zt9 fun a20 =>
 sto P zt9 a20 zk1 x19.1 <|
 zf0_4 R u a1 a7 x16.1 x16.2.1 a20 x19.2.1) w ∧
 (alo P zt9 fun a21 =>
 mst P (Instr.loadAt zt5 (.pointer (some a1))) (.agg #[.int .i64 x17.1, .int .i64 x17.2.1, .int .i64 x17.2.2.1]) <|
 mcall P n_zfe [(KV zk0 x17), (Sl.v x18)] (.tup [zk1, I]) fun (x22 : zT1 × Int × Unit) =>
 sto P zt9 a21 zk1 x22.1 <|
 zf0_4 R u a1 a7 x16.1 x16.2.1 a21 x22.2.1) w) w ∧
 (alo P zt9 fun a23 =>
 mst P (Instr.loadAt zt5 (.pointer (some a1))) (.agg #[.int .i64 x17.1, .int .i64 x17.2.1, .int .i64 x17.2.2.1]) <|
 mcall P n_zff [(Sl.v x16.1)] .sl fun (x24 : Sl) =>
 mst P (Instr.loadAt zt5 (.pointer (some a1))) (.agg #[.int .i64 x17.1, .int .i64 x17.2.1, .int .i64 x17.2.2.1]) <|
 mcall P n_zfe [(KV zk0 x17), (Sl.v x24)] (.tup [zk1, I]) fun (x25 : zT1 × Int × Unit) =>
 sto P zt9 a23 zk1 x25.1 <|
 zf0_4 R u a1 a7 x16.1 x16.2.1 a23 x25.2.1) w) w := by
    intro fs room' fuse' off' hs' i w hf hl hi hd h
    refine Crash_ok (kp := ks) hf hl h fun fs' room2 w hcut h => ?_
    obtain ⟨k, hk'⟩ := hcut.2 i _ hi
    simp only [List.take_nil, List.append_nil] at hk'
    have hdl := hd.len
    refine Load_ok (gs := hs'.map gotOf) hd.ok (by rw [List.length_map]; omega) hk' (by rw [List.append_nil]) (by have := hlen hd; simpa using this) h fun M w h => ?_
    exact TCread_ok (L := L) (Γ := Γ) hs hd h.to hR
  refine Save_ok (gs := (cleanU u gs).map gotOf) hc.ok (by rw [List.length_map]; omega) (by simp) (fun q hq => by simp only [List.mem_singleton] at hq; subst hq; exact (by decide : chg ≠ chgNew)) (fun q hq => by simp only [List.mem_singleton] at hq; subst hq; have := hlen hg; simpa using this) ⟨hr.1, by omega⟩ (fuse_bound _) h
    (fun _ e fs' room' fuse' off' w hfs h => ?_) (fun fs' room' fuse' w g1 g2 g3 _ h => ?_)
  · rcases hfs with rfl | ⟨a, b, hab, rfl⟩
    · exact crash _ room' fuse' off' gs 0 w (by simp) (fun q hq => by simp only [List.mem_singleton] at hq; subst hq; have := hlen hg; simpa using this) rfl hg h
    · refine crash _ room' fuse' off' gs 0 w (by simp) (fun q hq => ?_) rfl hg h
      simp only [List.cons_append, List.nil_append, List.mem_cons, List.not_mem_nil, or_false] at hq
      rcases hq with rfl | rfl
      · have := hlen hg; simpa using this
      · exact hab
  · obtain ⟨i, hi⟩ := List.getElem?_of_mem g1
    refine crash fs' room' fuse' false (cleanU u gs) i w (by simp at g3; omega) (fun q hq => ?_) hi hc h
    rcases g2 q hq with rfl | ⟨hq2, hn⟩
    · have := hlen hc; simpa using this
    · simp only [List.mem_singleton] at hq2; subst hq2; exact absurd rfl hn
theorem TC2_ok {R : Bool → World → Prop} {g : zT0} {N mk lt bd n u fz : Int} {L A kp : Sl} {ks : List Int} {xs : List zT6} {gs : List (Int × Ch)} {a1 a7 : Addr} (hs : StOk g N mk lt bd n xs) (hg : Gd (mk, lt, bd, n, xs) gs)
    (h : SH o (slO A ztd zk3 (gs.map gotOf) :: vr a7 zt9 zk1 (mk, lt, bd, n, L, ()) :: slR L zk6 xs :: vr a1 zt5 zk0 g :: Γ) w)
    [hk : RdS kp I ks Γ] (hR : ∀ w', SH o Γ w' → R true w') : zf0_2 R u fz kp a1 a7 A w := by
  have hgl := hg.len
  have hb := hg.blk
  unfold zf0_2
  refine New_ok ⟨by omega, by omega⟩ h fun d w h => ?_
  refine mif_ok (fun g => by cases g) (fun _ => ?_)
  refine meq_ptr_nil ?_
  refine mif_ok (fun g => by cases g) (fun _ => ?_)
  refine Save_ok (gs := gs.map gotOf) hg.ok (by rw [List.length_map]; omega) (by simp) (fun q hq => by cases hq) (fun q hq => by cases hq) ⟨by omega, by omega⟩ ⟨by omega, by omega⟩ h
    (fun hbad e fs' room' fuse' off' w hfs h => by omega) (fun fs' room' fuse' w g1 g2 g3 g4 h => ?_)
  refine mif_ok (fun g => by cases g) (fun _ => ?_)
  have hfs : fs' = [(chg, encF (gs.map gotOf), [])] := by
    cases fs' with
    | nil => cases g1
    | cons q l =>
      have hl : l = [] := by simpa using g3
      subst hl
      simp only [List.mem_singleton] at g1
      rw [← g1]
  have hroom := g4 (fun q hq => by cases hq)
  subst hfs; subst hroom
  have h : SH o (diskA d [(chg, encF (gs.map gotOf), [])] (16384 - blk (encF (gs.map gotOf)).length) fuse' false :: slO A ztd zk3 (gs.map gotOf) :: vr a7 zt9 zk1 (mk, lt, bd, n, L, ()) :: slR L zk6 xs :: vr a1 zt5 zk0 g :: Γ) w := h
  have hkl : kp.len = ks.length := (h.drop.drop.drop.drop.drop).len (s := kp)
  refine mif_ok (fun q => ?_) (fun _ => ?_)
  · have hgt : 50 < ks.length := by simp at q; omega
    have hcap := ((h.drop.drop.drop.drop.drop).rd (s := kp)).2.1
    refine slc_ok (k := I) (by simp) (by simp) (by simp <;> omega) ?_
    show zf0_3 R u fz (cut kp I 0 50) a1 a7 A (some d) w
    haveI : RdS (cut kp I 0 50) I ((ks.drop 0).take (50 - 0)) Γ := RdS.cut hk (by omega) (by omega)
    exact TC3_ok (room := 16384 - blk (encF (gs.map gotOf)).length) (ks := (ks.drop 0).take (50 - 0)) hs hg ⟨by omega, by omega⟩ h hR
  · exact TC3_ok (room := 16384 - blk (encF (gs.map gotOf)).length) hs hg ⟨by omega, by omega⟩ h hR
end
end Go.Proofs.YtpjhflboedicpaaGreatDoor
namespace Go.Proofs.YtpjhflboedicpaaGreatDoor
open Go Go.W
set_option maxRecDepth 100000
section
variable {o : Fix} {Γ Δ : List Assn} {w : World}
theorem TopCleaned_ok {R : Bool → World → Prop} {g : zT0} {l kp : Sl} {rs : List Rec} {ks : List Int} {u fz : Int} (h : SH o Γ w) [hr : RdS l zk2 rs Γ] [hk : RdS kp I ks Γ] (hR : ∀ w', SH o Γ w' → R true w') :
    mcall P n_zf0 [KV zk0 g, Sl.v l, .int .i64 u, .int .i64 fz, Sl.v kp] .b R w := by
  apply zf0_call
  refine bx_ok h fun a1 w h => ?_
  refine Some_ok (rs := rs) h fun l2 rs2 w hl150 ht50 h => ?_
  refine ld_var (a := a1) h ?_
  refine reMay_zero h fun w h => ?_
  refine mif_ok (fun q => ?_) (fun q => ?_)
  · refine awake17_ok h fun w h => ?_
    exact hR w h.drop.drop
  have hgk : gokB g = true := by simpa using q
  refine Zero_ok h fun w h => ?_
  refine alo_ok h fun a7 w h => ?_
  refine sto_var (a := a7) h fun w h => ?_
  have hl2 := h.len (s := l2)
  unfold zf0_1 zf0_6 zf0_7
  have h := slO_freeze (h.nilS zth zk6)
  have h := h.nilS ztd zk3
  have h : SH o (slO ⟨none, 0, 0⟩ ztd zk3 [] :: vr a7 zt9 zk1 (-1, 0, 0, 0, ⟨none, 0, 0⟩, ()) :: slR ⟨none, 0, 0⟩ zk6 [] :: vr a1 zt5 zk0 g :: slO l2 ztc zk2 rs2 :: Γ) w := h.to
  refine loop_ok (fun (i : Nat) st w => ∃ A cs mk lt bd n L xs, st = (A, (i : Int), ()) ∧ i ≤ rs2.length ∧ cs.length ≤ 3129 ∧ (∀ c ∈ cs, chGood c) ∧ stepsC zeroS cs = some (mk, lt, bd, n, xs) ∧ StOk g (i : Int) mk lt bd n xs ∧
      SH o (slO A ztd zk3 ((numC 0 cs).map gotOf) :: vr a7 zt9 zk1 (mk, lt, bd, n, L, ()) :: slR L zk6 xs :: vr a1 zt5 zk0 g :: slO l2 ztc zk2 rs2 :: Γ) w) (fun i => rs2.length - i) 0
    ⟨_, [], -1, 0, 0, 0, _, [], rfl, by omega, by simp, by simp, rfl, StOk.zero hgk, h⟩ ?_
  clear h q
  rintro i _ w cont ⟨A, cs, mk, lt, bd, n, L, xs, rfl, hi, hcl, hcg, hst, hs, h⟩ hc
  have hnl := numC_len 0 cs
  have hA := h.len (s := A)
  rw [List.length_map, hnl] at hA
  unfold zf0_8
  dsimp only
  have leave : ∀ w, SH o (slO A ztd zk3 ((numC 0 cs).map gotOf) :: vr a7 zt9 zk1 (mk, lt, bd, n, L, ()) :: slR L zk6 xs :: vr a1 zt5 zk0 g :: slO l2 ztc zk2 rs2 :: Γ) w → zf0_2 R u fz kp a1 a7 A w := by
    intro w h
    have hgd : Gd (mk, lt, bd, n, xs) (numC 0 cs) := ⟨by rw [hnl]; exact hcl, fun q hq => by
      obtain ⟨q1, q2, q3⟩ := numC_mem hq
      exact ⟨hcg _ q3, by omega, by omega⟩, numC_lt 0 cs, by rw [numC_snd]; exact hst⟩
    have h : SH o (slO A ztd zk3 ((numC 0 cs).map gotOf) :: vr a7 zt9 zk1 (mk, lt, bd, n, L, ()) :: slR L zk6 xs :: vr a1 zt5 zk0 g :: Γ) w := h.to
    exact TC2_ok hs hgd h hR
  refine mif_ok (fun q => ?_) (fun _ => leave w h)
  have hlt : i < rs2.length := by simp at q; omega
  refine mif_ok (fun q => ?_) (fun _ => leave w h)
  have hc3 : cs.length < 3000 := by simp at q; omega
  have hri := ht50 _ (List.getElem_mem hlt)
  have hget : rs2[(i : Int).toNat]? = some rs2[i] := by rw [Int.toNat_natCast]; exact List.getElem?_eq_getElem hlt
  -- the next round
  have ten : ∀ (A' : Sl) cs' mk' lt' bd' n' L' xs' w, cs'.length ≤ 3129 → (∀ c ∈ cs', chGood c) → stepsC zeroS cs' = some (mk', lt', bd', n', xs') → StOk g ((i : Int) + 1) mk' lt' bd' n' xs' →
      SH o (slO A' ztd zk3 ((numC 0 cs').map gotOf) :: vr a7 zt9 zk1 (mk', lt', bd', n', L', ()) :: slR L' zk6 xs' :: vr a1 zt5 zk0 g :: slO l2 ztc zk2 rs2 :: Γ) w → zf0_10 cont R l2 u fz kp a1 a7 A' i w := by
    intro A' cs' mk' lt' bd' n' L' xs' w p1 p2 p3 p4 h
    unfold zf0_10
    rw [w64_of (by omega) (by omega)]
    exact hc (i + 1) _ w (by omega) ⟨A', cs', mk', lt', bd', n', L', xs', rfl, hlt, p1, p2, p3, p4, h⟩
  -- the record is none that may be
  have no : ∀ (s14 : Addr) (z : zT1) w, SH o (vr s14 zt9 zk1 z :: slO A ztd zk3 ((numC 0 cs).map gotOf) :: vr a7 zt9 zk1 (mk, lt, bd, n, L, ()) :: slR L zk6 xs :: vr a1 zt5 zk0 g :: slO l2 ztc zk2 rs2 :: Γ) w →
      zf0_13 cont R l2 u fz kp a1 a7 A i s14 1 w := by
    intro s14 z w h
    unfold zf0_13
    refine mif_ok (fun _ => ?_) (fun g => by cases g)
    exact ten A cs mk lt bd n L xs w (by omega) hcg hst (hs.more (by omega) (by omega)) h.drop
  -- it is taken
  have yes : ∀ (s14 : Addr) mk' lt' bd' n' L' ys w, StOk g ((i : Int) + 1) mk' lt' bd' n' ys →
      SH o (vr s14 zt9 zk1 (mk', lt', bd', n', L', ()) :: slR L' zk6 ys :: slO A ztd zk3 ((numC 0 cs).map gotOf) :: vr a7 zt9 zk1 (mk, lt, bd, n, L, ()) :: slR L zk6 xs :: vr a1 zt5 zk0 g :: slO l2 ztc zk2 rs2 :: Γ) w →
      zf0_13 cont R l2 u fz kp a1 a7 A i s14 0 w := by
    intro s14 mk' lt' bd' n' L' ys w hs' h
    unfold zf0_13
    refine mif_ok (fun g => by cases g) (fun _ => ?_)
    refine ld_var (a := a7) h ?_
    refine ld_var (a := s14) h ?_
    have hx64 := hs.len
    have hy64 := hs'.len
    obtain ⟨q1, q2, q3, q4⟩ := hs'.cnt
    obtain ⟨q5, q6⟩ := hs'.mrk
    refine Diff_ok (L := L) (L' := L') ⟨by omega, by omega⟩ ⟨by omega, by omega⟩ ⟨by omega, by omega⟩ ⟨by omega, by omega⟩ (by omega) (by omega) (fun c hc => (hs'.cell c hc).ag) h fun D w h => ?_
    have hdg := diffS_good hs hs'
    have hdl := diffS_len mk lt bd n mk' lt' bd' n' xs ys
    have hds := diffS_steps (m := mk) (l := lt) (b := bd) (n := n) (m' := mk') (l' := lt') (b' := bd') (n' := n') hs.srt hs'.srt
    generalize diffS mk lt bd n mk' lt' bd' n' xs ys = ds at h hdg hdl hds
    have hD := h.len (s := D)
    rw [List.length_map] at hD
    unfold zf0_14 zf0_16 zf0_17
    have h : SH o (slO A ztd zk3 ((numC 0 (cs ++ ds.take 0)).map gotOf) :: slO D ztc zk2 (ds.map chRec) :: vr s14 zt9 zk1 (mk', lt', bd', n', L', ()) :: slR L' zk6 ys :: vr a7 zt9 zk1 (mk, lt, bd, n, L, ()) :: vr a1 zt5 zk0 g :: slO l2 ztc zk2 rs2 :: Γ) w := by
      rw [List.take_zero, List.append_nil]; exact h.to
    refine loop_ok (fun (k : Nat) st w => ∃ A', st = (A', (k : Int), ()) ∧ k ≤ ds.length ∧ SH o (slO A' ztd zk3 ((numC 0 (cs ++ ds.take k)).map gotOf) :: slO D ztc zk2 (ds.map chRec) :: vr s14 zt9 zk1 (mk', lt', bd', n', L', ()) :: slR L' zk6 ys :: vr a7 zt9 zk1 (mk, lt, bd, n, L, ()) :: vr a1 zt5 zk0 g :: slO l2 ztc zk2 rs2 :: Γ) w)
      (fun k => ds.length - k) 0 ⟨A, rfl, by omega, h⟩ ?_
    clear h
    rintro k _ w cont2 ⟨A', rfl, hkl, h⟩ hc2
    unfold zf0_18
    dsimp only
    have hA' := h.len (s := A')
    rw [List.length_map, numC_len, List.length_append, List.length_take] at hA'
    refine mif_ok (fun q => ?_) (fun q => ?_)
    · have hklt : k < ds.length := by simp at q; omega
      have htk : ds.take (k + 1) = ds.take k ++ [ds[k]] := by rw [List.take_add_one, List.getElem?_eq_getElem hklt]; rfl
      refine ixa_ok (s := D) h (by omega) (by omega) fun e ea => ?_
      refine ld_el (x := chRec ds[k]) ea h (by rw [List.getElem?_map, Int.toNat_natCast, List.getElem?_eq_getElem hklt]; rfl) ?_
      refine bsl_ok h fun x w h => ?_
      refine app_ok h (by simp [numC_len]; omega) (fun y _ => okV_plain rfl y) fun A2 w h => ?_
      rw [w64_of (by omega) (by omega)]
      refine hc2 (k + 1) _ w (by omega) ⟨A2, rfl, hklt, ?_⟩
      have hnum : (numC 0 (cs ++ ds.take (k + 1))).map gotOf = (numC 0 (cs ++ ds.take k)).map gotOf ++ [((A'.len : Int), chRec ds[k], ())] := by
        rw [htk, ← List.append_assoc, numC_append, List.map_append]
        congr 1
        simp only [numC, List.map_cons, List.map_nil, gotOf, List.length_append, List.length_take]
        congr 2
        omega
      rw [hnum]
      exact h.swap.drop
    · have hke : k = ds.length := by simp at q; omega
      subst hke
      rw [List.take_length] at h
      unfold zf0_15
      refine ld_var (a := s14) h ?_
      refine sto_var (a := a7) h fun w h => ?_
      refine ten A' (cs ++ ds) mk' lt' bd' n' L' ys w (by rw [List.length_append]; omega) (fun c hc => ?_) (by rw [stepsC_append hst]; exact hds) hs' h.to
      rcases List.mem_append.1 hc with hc | hc
      · exact hcg c hc
      · exact hdg c hc
  -- the document's engine
  have twelve0 : ∀ (s14 : Addr) mk' lt' bd' n' L' ys w, recIn rs2[i] = true → StOk g ((i : Int) + 1) mk' lt' bd' n' ys →
      SH o (vr s14 zt9 zk1 (mk', lt', bd', n', L', ()) :: slR L' zk6 ys :: slO A ztd zk3 ((numC 0 cs).map gotOf) :: vr a7 zt9 zk1 (mk, lt, bd, n, L, ()) :: slR L zk6 xs :: vr a1 zt5 zk0 g :: slO l2 ztc zk2 rs2 :: Γ) w →
      zf0_12 cont R l2 u fz kp a1 a7 A i s14 0 w := by
    intro s14 mk' lt' bd' n' L' ys w hrec hs' h
    unfold zf0_12
    refine mdraw_ok h fun w h => ?_
    refine ld_var (a := a1) h ?_
    refine ld_var (a := a7) h ?_
    refine ixa_ok (s := l2) h (by omega) (by omega) fun e ea => ?_
    refine ld_el ea h hget ?_
    refine ⟨?_, ?_⟩
    · refine rFeed_any (L := L) hs (by omega) h (fun hf => by rw [hrec] at hf; cases hf) fun _ s V w h => ?_
      refine alo_ok h fun b w h => ?_
      refine sto_var (a := b) h fun w h => ?_
      refine mif_ok (fun g => by cases g) (fun _ => ?_)
      exact yes s14 mk' lt' bd' n' L' ys w hs' h.drop
    · refine alo_ok h fun b w h => ?_
      refine mst_el ea h hget ?_
      refine mst_ixa (s := l2) h ea (by omega) (by omega) ?_
      refine mst_var (a := a7) h ?_
      refine mst_var (a := a1) h ?_
      refine rFeed_any (L := L) hs (by omega) h (fun hf => by rw [hrec] at hf; cases hf) fun _ s V w h => ?_
      refine sto_var (a := b) h fun w h => ?_
      refine mif_ok (fun g => by cases g) (fun _ => ?_)
      exact yes s14 mk' lt' bd' n' L' ys w hs' h.drop
  have twelve1 : ∀ (s14 : Addr) z w, recIn rs2[i] = false →
      SH o (vr s14 zt9 zk1 z :: slO A ztd zk3 ((numC 0 cs).map gotOf) :: vr a7 zt9 zk1 (mk, lt, bd, n, L, ()) :: slR L zk6 xs :: vr a1 zt5 zk0 g :: slO l2 ztc zk2 rs2 :: Γ) w →
      zf0_12 cont R l2 u fz kp a1 a7 A i s14 1 w := by
    intro s14 z w hrec h
    unfold zf0_12
    refine mdraw_ok h fun w h => ?_
    refine ld_var (a := a1) h ?_
    refine ld_var (a := a7) h ?_
    refine ixa_ok (s := l2) h (by omega) (by omega) fun e ea => ?_
    refine ld_el ea h hget ?_
    refine ⟨?_, ?_⟩
    · refine rFeed_any (L := L) hs (by omega) h (fun _ s V w h => ?_) (fun hf => by rw [hrec] at hf; cases hf)
      refine alo_ok h fun b w h => ?_
      refine sto_var (a := b) h fun w h => ?_
      refine mif_ok (fun g => by cases g) (fun _ => ?_)
      exact no s14 z w h.drop
    · refine alo_ok h fun b w h => ?_
      refine mst_el ea h hget ?_
      refine mst_ixa (s := l2) h ea (by omega) (by omega) ?_
      refine mst_var (a := a7) h ?_
      refine mst_var (a := a1) h ?_
      refine rFeed_any (L := L) hs (by omega) h (fun _ s V w h => ?_) (fun hf => by rw [hrec] at hf; cases hf)
      refine sto_var (a := b) h fun w h => ?_
      refine mif_ok (fun g => by cases g) (fun _ => ?_)
      exact no s14 z w h.drop
  unfold zf0_9 zf0_11
  refine mdraw_ok h fun w h => ?_
  refine ld_var (a := a1) h ?_
  refine ld_var (a := a7) h ?_
  refine ixa_ok (s := l2) h (by omega) (by omega) fun e ea => ?_
  refine ld_el ea h hget ?_
  refine ⟨?_, ?_⟩
  · refine Feed_ok (L := L) hs (by omega) (by omega) h (fun hf w h => ?_) (fun hf mk' lt' bd' L' ys V w hs' h => ?_)
    · refine alo_ok h fun b w h => ?_
      refine sto_var (a := b) h fun w h => ?_
      exact twelve1 b _ w hf h
    · refine alo_ok h fun b w h => ?_
      refine sto_var (a := b) h fun w h => ?_
      exact twelve0 b mk' lt' bd' _ L' ys w hf hs' h
  · refine alo_ok h fun b w h => ?_
    refine mst_el ea h hget ?_
    refine mst_ixa (s := l2) h ea (by omega) (by omega) ?_
    refine mst_var (a := a7) h ?_
    refine mst_var (a := a1) h ?_
    refine Feed_ok (L := L) hs (by omega) (by omega) h (fun hf w h => ?_) (fun hf mk' lt' bd' L' ys V w hs' h => ?_)
    · refine sto_var (a := b) h fun w h => ?_
      exact twelve1 b _ w hf h
    · refine sto_var (a := b) h fun w h => ?_
      exact twelve0 b mk' lt' bd' _ L' ys w hf hs' h.to
end
end Go.Proofs.YtpjhflboedicpaaGreatDoor
