/- Short texts of functions of the program, each with the proof that a call comes to it. No condition. -/
import Derived.Test.YtpjhflboedicpaaGreatDoorNames
set_option linter.unusedVariables false
set_option linter.unusedSimpArgs false
namespace Go.Proofs.YtpjhflboedicpaaGreatDoor
open Go Go.W
set_option maxRecDepth 100000
noncomputable abbrev zf1h_B : Code := (Tryz.f56.body).getD .skip
abbrev zf1h_q1 (R : Sl → World → Prop) := (topQ P [.tmp 2] .sl R)
abbrev zf1h_l1 : Slots := [(0, .v)]
def zf1h_0 (R : Sl → World → Prop) (seq_0 : Value) : World → Prop :=
 mcall P n_zf2u [seq_0] .sl fun (x1 : Sl) =>
 mcall P n_zf2v [(Sl.v x1)] (.tup []) fun (x2 : Unit) =>
 R x1
theorem zf1h_0_ok (R : Sl → World → Prop) (x : Value × Unit) (w : World) (h : zf1h_0 R x.1 w) : WPC P 9 [] (Code.at zf1h_B []) (zf1h_q1 R) (mkE 9 zf1h_l1 x) w :=
  pc_end h
theorem zf1h_call (R : Sl → World → Prop) (seq_0 : Value) (w : World) (h : zf1h_0 R seq_0 w) : mcall P n_zf1h [seq_0] .sl R w :=
  pc_top (l := zf1h_l1) (c := zf1h_B) Tryz.func56 (zf1h_0_ok R) h
noncomputable abbrev zf1i_B : Code := (Tryz.f57.body).getD .skip
abbrev zf1i_q1 (R : Value → World → Prop) := (topQ P [.tmp 2] .v R)
abbrev zf1i_l1 : Slots := [(0, .m)]
def zf1i_0 (R : Value → World → Prop) (m_0 : Option Nat) : World → Prop :=
 bx P ztk .m m_0 fun a1 =>
 R (.func (.func n_zf2w) #[] #[.pointer (some a1)])
theorem zf1i_0_ok (R : Value → World → Prop) (x : Option Nat × Unit) (w : World) (h : zf1i_0 R x.1 w) : WPC P 4 [] (Code.at zf1i_B []) (zf1i_q1 R) (mkE 4 zf1i_l1 x) w :=
  pc_end h
theorem zf1i_call (R : Value → World → Prop) (m_0 : Option Nat) (w : World) (h : zf1i_0 R m_0 w) : mcall P n_zf1i [(.map m_0)] .v R w :=
  pc_top (l := zf1i_l1) (c := zf1i_B) Tryz.func57 (zf1i_0_ok R) h
noncomputable abbrev zf1j_B : Code := (Tryz.f58.body).getD .skip
abbrev zf1j_q1 (R : Int → World → Prop) := (topQ P [.tmp 2] I R)
abbrev zf1j_l1 : Slots := [(0, I)]
def zf1j_0 (R : Int → World → Prop) (n_0 : Int) : World → Prop :=
 R (mx 1 (w64 ((w64 ((w64 (n_0 + 64)) - 1)).tdiv 64)))
theorem zf1j_0_ok (R : Int → World → Prop) (x : Int × Unit) (w : World) (h : zf1j_0 R x.1 w) : WPC P 8 [] (Code.at zf1j_B []) (zf1j_q1 R) (mkE 8 zf1j_l1 x) w :=
  pc_end h
theorem zf1j_call (R : Int → World → Prop) (n_0 : Int) (w : World) (h : zf1j_0 R n_0 w) : mcall P n_zf1j [(.int .i64 n_0)] I R w :=
  pc_top (l := zf1j_l1) (c := zf1j_B) Tryz.func58 (zf1j_0_ok R) h
noncomputable abbrev zf1k_B : Code := (Tryz.f59.body).getD .skip
abbrev zf1k_q1 (R : Int → World → Prop) := (topQ P [.tmp 2] I R)
abbrev zf1k_l1 : Slots := [(0, .p)]
def zf1k_0 (R : Int → World → Prop) (f_0 : Option Addr) : World → Prop :=
 mdraw <|
 mnil f_0 fun a1 =>
 ld P zt4 a1 .s fun (x2 : Bs) =>
 mnil f_0 fun a3 =>
 ld P zt4 (ad a3 1) .s fun (x4 : Bs) =>
 R (w64 ((x2.length : Int) + (x4.length : Int)))
theorem zf1k_0_ok (R : Int → World → Prop) (x : Option Addr × Unit) (w : World) (h : zf1k_0 R x.1 w) : WPC P 14 [] (Code.at zf1k_B []) (zf1k_q1 R) (mkE 14 zf1k_l1 x) w :=
  pc_end h
theorem zf1k_call (R : Int → World → Prop) (f_0 : Option Addr) (w : World) (h : zf1k_0 R f_0 w) : mcall P n_zf1k [(.pointer f_0)] I R w :=
  pc_top (l := zf1k_l1) (c := zf1k_B) Tryz.func59 (zf1k_0_ok R) h
noncomputable abbrev zf1l_B : Code := (Tryz.f60.body).getD .skip
abbrev zf1l_q1 (R : (Bs × Int × Unit) → World → Prop) := (topQ P [.tmp 4, .tmp 5] (.tup [.s, I]) R)
abbrev zf1l_l1 : Slots := [(0, .p), (1, .s)]
def zf1l_0 (R : (Bs × Int × Unit) → World → Prop) (d_0 : Option Addr) (name_1 : Bs) : World → Prop :=
 bsl P ztp .s [name_1] fun x1 =>
 mcall P n_zf2q [(.pointer d_0), (Sl.v x1)] I fun (x2 : Int) =>
 mif (x2 != 0)
 (R ([], x2, ()))
 (mnil d_0 fun a3 =>
 ld P ztk a3 .m fun (x4 : Option Nat) =>
 lku P ztk x4 .s name_1 .p fun (x5 : Option Addr) =>
 meq P .eql ztq (.pointer x5) (.pointer none) fun x6 =>
 mif x6
 (R ([], 3, ()))
 (mdraw <|
 mnil x5 fun a7 =>
 ld P zt4 a7 .s fun (x8 : Bs) =>
 mnil x5 fun a9 =>
 ld P zt4 (ad a9 1) .s fun (x10 : Bs) =>
 mcat x8 x10 fun s11 =>
 R (s11, 0, ())))
theorem zf1l_0_ok (R : (Bs × Int × Unit) → World → Prop) (x : Option Addr × Bs × Unit) (w : World) (h : zf1l_0 R x.1 x.2.1 w) : WPC P 32 [] (Code.at zf1l_B []) (zf1l_q1 R) (mkE 32 zf1l_l1 x) w :=
  pc_end h
theorem zf1l_call (R : (Bs × Int × Unit) → World → Prop) (d_0 : Option Addr) (name_1 : Bs) (w : World) (h : zf1l_0 R d_0 name_1 w) : mcall P n_zf1l [(.pointer d_0), (.string ⟨name_1.toArray⟩)] (.tup [.s, I]) R w :=
  pc_top (l := zf1l_l1) (c := zf1l_B) Tryz.func60 (zf1l_0_ok R) h
noncomputable abbrev zf1m_B : Code := (Tryz.f61.body).getD .skip
abbrev zf1m_q1 (R : (Sl × Int × Unit) → World → Prop) := (topQ P [.tmp 2, .tmp 3] (.tup [.sl, I]) R)
abbrev zf1m_l1 : Slots := [(0, .s)]
abbrev zf1m_l2 : Slots := [(4, .s), (6, I), (7, .sl)]
abbrev zf1m_l3 : Slots := [(4, .s), (7, .sl)]
def zf1m_2 (R : (Sl × Int × Unit) → World → Prop) (t_4 : Bs) (l_7 : Sl) : World → Prop :=
 mif (!(t_4 == []))
 (R (⟨none, 0, 0⟩, 2, ()))
 (mcall P n_zf2i [(Sl.v l_7)] I fun (x3 : Int) =>
 mif (x3 != 0)
 (R (⟨none, 0, 0⟩, 2, ()))
 (R (l_7, 0, ())))
abbrev zf1m_q2 (R : (Sl × Int × Unit) → World → Prop) := (thenQ (fun env => getE env zf1m_l3 fun (x : Bs × Sl × Unit) => zf1m_2 R x.1 x.2.1) (zf1m_q1 R))
abbrev zf1m_l4 : Slots := [(4, .s), (6, I), (7, .sl)]
abbrev zf1m_l5 : Slots := [(4, .s), (7, .sl), (37, I)]
abbrev zf1m_l6 : Slots := [(36, I)]
abbrev zf1m_q3 (c1 : (Bs × Sl × Int × Unit) → (Int × Unit) → World → Prop) (R : (Sl × Int × Unit) → World → Prop) := (thenQ (fun env => getE env zf1m_l5 fun (s : Bs × Sl × Int × Unit) => getE env zf1m_l6 (c1 s)) (blockQ 0 ((zf1m_q2 R) .normal) (zf1m_q2 R)))
def zf1m_5 (c1 : (Bs × Sl × Int × Unit) → (Int × Unit) → World → Prop) (R : (Sl × Int × Unit) → World → Prop) (t_4 : Bs) (l_7 : Sl) (v37 : Int) (v36 : Int) : World → Prop :=
 mif (decide (v37 < v36))
 (mcall P n_zf27 [(.string ⟨t_4.toArray⟩)] (.tup [I, .s, I]) fun (x4 : Int × Bs × Int × Unit) =>
 mif (x4.2.2.1 != 0)
 (R (⟨none, 0, 0⟩, x4.2.2.1, ()))
 (mcall P n_zf2y [(.string ⟨x4.2.1.toArray⟩)] (.tup [zk2, .s, I]) fun (x5 : zT2 × Bs × Int × Unit) =>
 alo P ztc fun a6 =>
 sto P ztc a6 zk2 x5.1 <|
 mif (x5.2.2.1 != 0)
 (R (⟨none, 0, 0⟩, x5.2.2.1, ()))
 (ld P ztc a6 zk2 fun (x7 : zT2) =>
 bsl P zta zk3 [(x4.1, x7, ())] fun x8 =>
 app P #[zta, zta] zta (Sl.v l_7) (Sl.v x8) fun x9 =>
 c1 (x5.2.1, x9, w64 (v37 + 1), ()) (v36, ()))))
 (zf1m_2 R t_4 l_7)
def zf1m_4 (R : (Sl × Int × Unit) → World → Prop) (t_4 : Bs) (l_7 : Sl) (v37 : Int) (v36 : Int) : World → Prop :=
 W.Loop (v36, ()) (fun (c1 : (Bs × Sl × Int × Unit) → (Int × Unit) → World → Prop) (s : Bs × Sl × Int × Unit) => zf1m_5 c1 R s.1 s.2.1 s.2.2.1 v36) (t_4, l_7, v37, ())
def zf1m_3 (R : (Sl × Int × Unit) → World → Prop) (t_4 : Bs) (n_6 : Int) (l_7 : Sl) : World → Prop :=
 zf1m_4 R t_4 l_7 0 n_6
def zf1m_1 (R : (Sl × Int × Unit) → World → Prop) (t_4 : Bs) (n_6 : Int) (l_7 : Sl) : World → Prop :=
 zf1m_3 R t_4 n_6 l_7
def zf1m_0 (R : (Sl × Int × Unit) → World → Prop) (s_0 : Bs) : World → Prop :=
 mcall P n_zf2x [(.string ⟨s_0.toArray⟩)] (.tup [.s, I]) fun (x1 : Bs × Int × Unit) =>
 mif (x1.2.1 != 0)
 (R (⟨none, 0, 0⟩, x1.2.1, ()))
 (mcall P n_zf27 [(.string ⟨x1.1.toArray⟩)] (.tup [I, .s, I]) fun (x2 : Int × Bs × Int × Unit) =>
 mif (x2.2.2.1 != 0)
 (R (⟨none, 0, 0⟩, 2, ()))
 (mif (decide (x2.1 < 0))
 (R (⟨none, 0, 0⟩, 2, ()))
 (mif (decide (x2.1 > 4096))
 (R (⟨none, 0, 0⟩, 2, ()))
 (zf1m_1 R x2.2.1 x2.1 ⟨none, 0, 0⟩))))
theorem zf1m_2_ok (R : (Sl × Int × Unit) → World → Prop) (x : Bs × Sl × Unit) (w : World) (h : zf1m_2 R x.1 x.2.1 w) : WPC P 73 [] (Code.at zf1m_B [.snd, .snd, .snd, .snd, .snd, .snd, .snd]) (zf1m_q1 R) (mkE 73 zf1m_l3 x) w :=
  pc_end h
theorem zf1m_5_ok (c1 : (Bs × Sl × Int × Unit) → (Int × Unit) → World → Prop) (R : (Sl × Int × Unit) → World → Prop) (x : Bs × Sl × Int × Unit) (y : Int × Unit) (w : World) (h : zf1m_5 c1 R x.1 x.2.1 x.2.2.1 y.1 w) : WPC P 73 [] (Code.at zf1m_B [.snd, .snd, .snd, .snd, .snd, .snd, .fst, .snd, .blk, .blk]) (zf1m_q3 c1 R) (mkE2 73 zf1m_l5 zf1m_l6 x y) w :=
  pc_end h
theorem zf1m_4_ok (R : (Sl × Int × Unit) → World → Prop) (x : Bs × Sl × Int × Unit) (y : Int × Unit) (w : World) (h : zf1m_4 R x.1 x.2.1 x.2.2.1 y.1 w) : WPC P 73 [] (Code.at zf1m_B [.snd, .snd, .snd, .snd, .snd, .snd, .fst, .snd]) (zf1m_q2 R) (mkE2 73 zf1m_l5 zf1m_l6 x y) w :=
  pc_loopE (l := zf1m_l5) (l' := zf1m_l6) (id := 0) (b := (Code.at zf1m_B [.snd, .snd, .snd, .snd, .snd, .snd, .fst, .snd, .blk, .blk])) (fun c1 s => zf1m_5_ok c1 R s y) h
theorem zf1m_3_ok (R : (Sl × Int × Unit) → World → Prop) (x : Bs × Int × Sl × Unit) (w : World) (h : zf1m_3 R x.1 x.2.1 x.2.2.1 w) : WPC P 73 [] (Code.at zf1m_B [.snd, .snd, .snd, .snd, .snd, .snd, .fst]) (zf1m_q2 R) (mkE 73 zf1m_l4 x) w :=
  pc_cut2 (l := zf1m_l5) (l' := zf1m_l6) 1 (zf1m_4_ok R) h
theorem zf1m_1_ok (R : (Sl × Int × Unit) → World → Prop) (x : Bs × Int × Sl × Unit) (w : World) (h : zf1m_1 R x.1 x.2.1 x.2.2.1 w) : WPC P 73 [] (Code.at zf1m_B [.snd, .snd, .snd, .snd, .snd, .snd]) (zf1m_q1 R) (mkE 73 zf1m_l2 x) w :=
  pc_seq (l := zf1m_l3) (a := (Code.at zf1m_B [.snd, .snd, .snd, .snd, .snd, .snd, .fst])) (b := (Code.at zf1m_B [.snd, .snd, .snd, .snd, .snd, .snd, .snd])) (pc_cut (l := zf1m_l4) (c := (Code.at zf1m_B [.snd, .snd, .snd, .snd, .snd, .snd, .fst])) 0 (zf1m_3_ok R) h) (zf1m_2_ok R)
theorem zf1m_0_ok (R : (Sl × Int × Unit) → World → Prop) (x : Bs × Unit) (w : World) (h : zf1m_0 R x.1 w) : WPC P 73 [] (Code.at zf1m_B []) (zf1m_q1 R) (mkE 73 zf1m_l1 x) w :=
  pc_cut (l := zf1m_l2) 6 (zf1m_1_ok R) h
theorem zf1m_call (R : (Sl × Int × Unit) → World → Prop) (s_0 : Bs) (w : World) (h : zf1m_0 R s_0 w) : mcall P n_zf1m [(.string ⟨s_0.toArray⟩)] (.tup [.sl, I]) R w :=
  pc_top (l := zf1m_l1) (c := zf1m_B) Tryz.func61 (zf1m_0_ok R) h
noncomputable abbrev zf1n_B : Code := (Tryz.f62.body).getD .skip
abbrev zf1n_q1 (R : (zT1 × Int × Unit) → World → Prop) := (topQ P [.cell 4 zt9, .tmp 5] (.tup [zk1, I]) R)
abbrev zf1n_l1 : Slots := [(0, zk1), (1, zk2)]
abbrev zf1n_l2 : Slots := [(10, I)]
abbrev zf1n_l3 : Slots := [(2, .ad), (3, .ad), (4, .ad), (6, I), (7, .s), (9, .ad)]
abbrev zf1n_l4 : Slots := [(2, .ad), (3, .ad), (4, .ad), (6, I), (7, .s), (9, .ad), (10, I)]
abbrev zf1n_l5 : Slots := [(2, .ad), (3, .ad), (4, .ad), (6, I), (7, .s), (9, .ad), (10, I), (11, .b)]
abbrev zf1n_l6 : Slots := [(2, .ad), (4, .ad), (12, .sl)]
def zf1n_4 (R : (zT1 × Int × Unit) → World → Prop) (s_2 : Addr) (v4 : Addr) (l_12 : Sl) : World → Prop :=
 sto P zt8 (ad s_2 4) .sl l_12 <|
 ld P zt9 s_2 zk1 fun (x46 : zT1) =>
 sto P zt9 v4 zk1 x46 <|
 ld P zt9 v4 zk1 fun (x47 : zT1) =>
 R (x47, 0, ())
def zf1n_3 (R : (zT1 × Int × Unit) → World → Prop) (s_2 : Addr) (r_3 : Addr) (v4 : Addr) (sort_6 : Int) (rest_7 : Bs) (at_9 : Addr) (i_10 : Int) (is_11 : Bool) : World → Prop :=
 ld P zt8 (ad s_2 4) .sl fun (x16 : Sl) =>
 mcall P n_zfr [(Sl.v x16)] .sl fun (x17 : Sl) =>
 mif (sort_6 == 0)
 (mcall P n_zf2z [(.string ⟨rest_7.toArray⟩), (.int .i64 4)] (.tup [.sl, .s, I]) fun (x18 : Sl × Bs × Int × Unit) =>
 mif (x18.2.2.1 != 0)
 (sto P zt9 v4 zk1 (0, 0, 0, 0, ⟨none, 0, 0⟩, ()) <|
 ld P zt9 v4 zk1 fun (x19 : zT1) =>
 R (x19, 2, ()))
 (mif (!(x18.2.1 == []))
 (sto P zt9 v4 zk1 (0, 0, 0, 0, ⟨none, 0, 0⟩, ()) <|
 ld P zt9 v4 zk1 fun (x20 : zT1) =>
 R (x20, 2, ()))
 (ld P zt1 r_3 I fun (x21 : Int) =>
 mif (x21 != 0)
 (sto P zt9 v4 zk1 (0, 0, 0, 0, ⟨none, 0, 0⟩, ()) <|
 ld P zt9 v4 zk1 fun (x22 : zT1) =>
 R (x22, 2, ()))
 (ld P zt1 (ad r_3 1) I fun (x23 : Int) =>
 mif (x23 != 0)
 (sto P zt9 v4 zk1 (0, 0, 0, 0, ⟨none, 0, 0⟩, ()) <|
 ld P zt9 v4 zk1 fun (x24 : zT1) =>
 R (x24, 2, ()))
 (mdraw <|
 ixa P zt7 (Sl.v x18.1) 0 fun x25 =>
 ld P zt1 x25 I fun (x26 : Int) =>
 ixa P zt7 (Sl.v x18.1) 1 fun x27 =>
 ld P zt1 x27 I fun (x28 : Int) =>
 ixa P zt7 (Sl.v x18.1) 2 fun x29 =>
 ld P zt1 x29 I fun (x30 : Int) =>
 ixa P zt7 (Sl.v x18.1) 3 fun x31 =>
 ld P zt1 x31 I fun (x32 : Int) =>
 sto P zt1 s_2 I x26 <|
 mst P (Instr.loadAt zt1 (.pointer (some x31))) (.int .i64 x32) <|
 mst P (Instr.indexAt zt7 (.slice x18.1.a x18.1.len x18.1.cap) (.int .i64 3)) (.pointer (some x31)) <|
 mst P (Instr.loadAt zt1 (.pointer (some x29))) (.int .i64 x30) <|
 mst P (Instr.indexAt zt7 (.slice x18.1.a x18.1.len x18.1.cap) (.int .i64 2)) (.pointer (some x29)) <|
 mst P (Instr.loadAt zt1 (.pointer (some x27))) (.int .i64 x28) <|
 mst P (Instr.indexAt zt7 (.slice x18.1.a x18.1.len x18.1.cap) (.int .i64 1)) (.pointer (some x27)) <|
 sto P zt1 (ad s_2 1) I x28 <|
 mst P (Instr.loadAt zt1 (.pointer (some x31))) (.int .i64 x32) <|
 mst P (Instr.indexAt zt7 (.slice x18.1.a x18.1.len x18.1.cap) (.int .i64 3)) (.pointer (some x31)) <|
 mst P (Instr.loadAt zt1 (.pointer (some x29))) (.int .i64 x30) <|
 mst P (Instr.indexAt zt7 (.slice x18.1.a x18.1.len x18.1.cap) (.int .i64 2)) (.pointer (some x29)) <|
 sto P zt1 (ad s_2 2) I x30 <|
 mst P (Instr.loadAt zt1 (.pointer (some x31))) (.int .i64 x32) <|
 mst P (Instr.indexAt zt7 (.slice x18.1.a x18.1.len x18.1.cap) (.int .i64 3)) (.pointer (some x31)) <|
 sto P zt1 (ad s_2 3) I x32 <|
 zf1n_4 R s_2 v4 x17)))))
 (mif (sort_6 == 1)
 (mcall P n_zf30 [(.string ⟨rest_7.toArray⟩)] (.tup [zk5, I]) fun (x33 : zT5 × Int × Unit) =>
 alo P ztg fun a34 =>
 sto P ztg a34 zk5 x33.1 <|
 mif (x33.2.1 != 0)
 (sto P zt9 v4 zk1 (0, 0, 0, 0, ⟨none, 0, 0⟩, ()) <|
 ld P zt9 v4 zk1 fun (x35 : zT1) =>
 R (x35, x33.2.1, ()))
 (ld P ztg a34 zk5 fun (x36 : zT5) =>
 sto P ztg (ad at_9 2) zk5 x36 <|
 mif is_11
 (ld P zth at_9 zk6 fun (x37 : zT6) =>
 ixa P zt8 (Sl.v x17) i_10 fun x38 =>
 sto P zth x38 zk6 x37 <|
 zf1n_4 R s_2 v4 x17)
 (ld P zth at_9 zk6 fun (x39 : zT6) =>
 bsl P zt8 zk6 [x39] fun x40 =>
 mcall P n_zf2a [(Sl.v x17), (.int .i64 i_10), (Sl.v x40)] .sl fun (x41 : Sl) =>
 zf1n_4 R s_2 v4 x41)))
 (mif (sort_6 == 2)
 (mif (rest_7 == [])
 (mif is_11
 (mcall P n_zf31 [(Sl.v x17), (.int .i64 i_10), (.int .i64 (w64 (i_10 + 1)))] .sl fun (x42 : Sl) =>
 zf1n_4 R s_2 v4 x42)
 (sto P zt9 v4 zk1 (0, 0, 0, 0, ⟨none, 0, 0⟩, ()) <|
 ld P zt9 v4 zk1 fun (x43 : zT1) =>
 R (x43, 2, ())))
 (sto P zt9 v4 zk1 (0, 0, 0, 0, ⟨none, 0, 0⟩, ()) <|
 ld P zt9 v4 zk1 fun (x44 : zT1) =>
 R (x44, 2, ())))
 (sto P zt9 v4 zk1 (0, 0, 0, 0, ⟨none, 0, 0⟩, ()) <|
 ld P zt9 v4 zk1 fun (x45 : zT1) =>
 R (x45, 2, ()))))
def zf1n_2 (R : (zT1 × Int × Unit) → World → Prop) (s_2 : Addr) (r_3 : Addr) (v4 : Addr) (sort_6 : Int) (rest_7 : Bs) (at_9 : Addr) (i_10 : Int) : World → Prop :=
 mdraw <|
 ld P zt8 (ad s_2 4) .sl fun (x10 : Sl) =>
 mif (decide (i_10 < (x10.len : Int)))
 (ld P zth at_9 zk6 fun (x11 : zT6) =>
 ld P zt8 (ad s_2 4) .sl fun (x12 : Sl) =>
 ixa P zt8 (Sl.v x12) i_10 fun x13 =>
 ld P zth x13 zk6 fun (x14 : zT6) =>
 mcall P n_zf14 [(KV zk6 x11), (KV zk6 x14)] .b fun (x15 : Bool) =>
 zf1n_3 R s_2 r_3 v4 sort_6 rest_7 at_9 i_10 (!x15))
 (zf1n_3 R s_2 r_3 v4 sort_6 rest_7 at_9 i_10 false)
abbrev zf1n_q2 (c1 : (Int × Unit) → (Addr × Addr × Addr × Int × Bs × Addr × Unit) → World → Prop) (R : (zT1 × Int × Unit) → World → Prop) := (thenQ (fun env => getE env zf1n_l2 fun (s : Int × Unit) => getE env zf1n_l3 (c1 s)) (blockQ 0 (fun env => getE env zf1n_l4 fun (x : Addr × Addr × Addr × Int × Bs × Addr × Int × Unit) => zf1n_2 R x.1 x.2.1 x.2.2.1 x.2.2.2.1 x.2.2.2.2.1 x.2.2.2.2.2.1 x.2.2.2.2.2.2.1) (zf1n_q1 R)))
def zf1n_5 (c1 : (Int × Unit) → (Addr × Addr × Addr × Int × Bs × Addr × Unit) → World → Prop) (R : (zT1 × Int × Unit) → World → Prop) (i_10 : Int) (s_2 : Addr) (r_3 : Addr) (v4 : Addr) (sort_6 : Int) (rest_7 : Bs) (at_9 : Addr) : World → Prop :=
 mdraw <|
 ld P zt8 (ad s_2 4) .sl fun (x48 : Sl) =>
 mif (decide (i_10 < (x48.len : Int)))
 (ld P zt8 (ad s_2 4) .sl fun (x49 : Sl) =>
 ixa P zt8 (Sl.v x49) i_10 fun x50 =>
 ld P zth x50 zk6 fun (x51 : zT6) =>
 ld P zth at_9 zk6 fun (x52 : zT6) =>
 mcall P n_zf14 [(KV zk6 x51), (KV zk6 x52)] .b fun (x53 : Bool) =>
 mif x53
 (c1 (w64 (i_10 + 1), ()) (s_2, r_3, v4, sort_6, rest_7, at_9, ()))
 (zf1n_2 R s_2 r_3 v4 sort_6 rest_7 at_9 i_10))
 (zf1n_2 R s_2 r_3 v4 sort_6 rest_7 at_9 i_10)
def zf1n_1 (R : (zT1 × Int × Unit) → World → Prop) (i_10 : Int) (s_2 : Addr) (r_3 : Addr) (v4 : Addr) (sort_6 : Int) (rest_7 : Bs) (at_9 : Addr) : World → Prop :=
 W.Loop (s_2, r_3, v4, sort_6, rest_7, at_9, ()) (fun (c1 : (Int × Unit) → (Addr × Addr × Addr × Int × Bs × Addr × Unit) → World → Prop) (s : Int × Unit) => zf1n_5 c1 R s.1 s_2 r_3 v4 sort_6 rest_7 at_9) (i_10, ())
def zf1n_0 (R : (zT1 × Int × Unit) → World → Prop) (s_0 : zT1) (r_1 : zT2) : World → Prop :=
 bx P zt9 zk1 s_0 fun a1 =>
 bx P ztc zk2 r_1 fun a2 =>
 alo P zt9 fun a3 =>
 ld P zt4 (ad a2 2) .s fun (x4 : Bs) =>
 mcall P n_zf27 [(.string ⟨x4.toArray⟩)] (.tup [I, .s, I]) fun (x5 : Int × Bs × Int × Unit) =>
 mif (x5.2.2.1 != 0)
 (sto P zt9 a3 zk1 (0, 0, 0, 0, ⟨none, 0, 0⟩, ()) <|
 ld P zt9 a3 zk1 fun (x6 : zT1) =>
 R (x6, 2, ()))
 (ld P zt1 a2 I fun (x7 : Int) =>
 ld P zt1 (ad a2 1) I fun (x8 : Int) =>
 alo P zth fun a9 =>
 sto P zth a9 zk6 (x7, x8, (0, 0, 0, 0, (0, 0, 0, 0, ()), 0, 0, ()), ()) <|
 zf1n_1 R 0 a1 a2 a3 x5.1 x5.2.1 a9)
theorem zf1n_4_ok (R : (zT1 × Int × Unit) → World → Prop) (x : Addr × Addr × Sl × Unit) (w : World) (h : zf1n_4 R x.1 x.2.1 x.2.2.1 w) : WPC P 152 [] (Code.at zf1n_B [.snd, .snd, .snd, .snd, .snd, .snd, .snd, .snd, .snd]) (zf1n_q1 R) (mkE 152 zf1n_l6 x) w :=
  pc_end h
theorem zf1n_3_ok (R : (zT1 × Int × Unit) → World → Prop) (x : Addr × Addr × Addr × Int × Bs × Addr × Int × Bool × Unit) (w : World) (h : zf1n_3 R x.1 x.2.1 x.2.2.1 x.2.2.2.1 x.2.2.2.2.1 x.2.2.2.2.2.1 x.2.2.2.2.2.2.1 x.2.2.2.2.2.2.2.1 w) : WPC P 152 [] (Code.at zf1n_B [.snd, .snd, .snd, .snd, .snd, .snd, .snd]) (zf1n_q1 R) (mkE 152 zf1n_l5 x) w :=
  pc_cut (l := zf1n_l6) 2 (zf1n_4_ok R) h
theorem zf1n_2_ok (R : (zT1 × Int × Unit) → World → Prop) (x : Addr × Addr × Addr × Int × Bs × Addr × Int × Unit) (w : World) (h : zf1n_2 R x.1 x.2.1 x.2.2.1 x.2.2.2.1 x.2.2.2.2.1 x.2.2.2.2.2.1 x.2.2.2.2.2.2.1 w) : WPC P 152 [] (Code.at zf1n_B [.snd, .snd, .snd, .snd, .snd, .snd]) (zf1n_q1 R) (mkE 152 zf1n_l4 x) w :=
  pc_cut (l := zf1n_l5) 1 (zf1n_3_ok R) h
theorem zf1n_5_ok (c1 : (Int × Unit) → (Addr × Addr × Addr × Int × Bs × Addr × Unit) → World → Prop) (R : (zT1 × Int × Unit) → World → Prop) (x : Int × Unit) (y : Addr × Addr × Addr × Int × Bs × Addr × Unit) (w : World) (h : zf1n_5 c1 R x.1 y.1 y.2.1 y.2.2.1 y.2.2.2.1 y.2.2.2.2.1 y.2.2.2.2.2.1 w) : WPC P 152 [] (Code.at zf1n_B [.snd, .snd, .snd, .snd, .snd, .fst, .blk, .blk]) (zf1n_q2 c1 R) (mkE2 152 zf1n_l2 zf1n_l3 x y) w :=
  pc_end h
theorem zf1n_1_ok (R : (zT1 × Int × Unit) → World → Prop) (x : Int × Unit) (y : Addr × Addr × Addr × Int × Bs × Addr × Unit) (w : World) (h : zf1n_1 R x.1 y.1 y.2.1 y.2.2.1 y.2.2.2.1 y.2.2.2.2.1 y.2.2.2.2.2.1 w) : WPC P 152 [] (Code.at zf1n_B [.snd, .snd, .snd, .snd, .snd]) (zf1n_q1 R) (mkE2 152 zf1n_l2 zf1n_l3 x y) w :=
  pc_loopR (l := zf1n_l2) (l' := zf1n_l3) (lr := zf1n_l4) (FR := fun (x : Addr × Addr × Addr × Int × Bs × Addr × Int × Unit) => zf1n_2 R x.1 x.2.1 x.2.2.1 x.2.2.2.1 x.2.2.2.2.1 x.2.2.2.2.2.1 x.2.2.2.2.2.2.1) (id := 0) (b := (Code.at zf1n_B [.snd, .snd, .snd, .snd, .snd, .fst, .blk, .blk])) (rest := (Code.at zf1n_B [.snd, .snd, .snd, .snd, .snd, .snd])) (fun c1 s => zf1n_5_ok c1 R s y) (zf1n_2_ok R) h
theorem zf1n_0_ok (R : (zT1 × Int × Unit) → World → Prop) (x : zT1 × zT2 × Unit) (w : World) (h : zf1n_0 R x.1 x.2.1 w) : WPC P 152 [] (Code.at zf1n_B []) (zf1n_q1 R) (mkE 152 zf1n_l1 x) w :=
  pc_cut2 (l := zf1n_l2) (l' := zf1n_l3) 5 (zf1n_1_ok R) h
theorem zf1n_call (R : (zT1 × Int × Unit) → World → Prop) (s_0 : zT1) (r_1 : zT2) (w : World) (h : zf1n_0 R s_0 r_1 w) : mcall P n_zf1n [(KV zk1 s_0), (KV zk2 r_1)] (.tup [zk1, I]) R w :=
  pc_top (l := zf1n_l1) (c := zf1n_B) Tryz.func62 (zf1n_0_ok R) h
noncomputable abbrev zf1o_B : Code := (Tryz.f63.body).getD .skip
abbrev zf1o_q1 (R : Bool → World → Prop) := (topQ P [.tmp 4] .b R)
abbrev zf1o_l1 : Slots := [(0, .sl), (1, .sl)]
abbrev zf1o_l2 : Slots := [(0, .sl), (1, .sl)]
abbrev zf1o_l3 : Slots := []
def zf1o_2 (R : Bool → World → Prop) : World → Prop :=
 R true
abbrev zf1o_q2 (R : Bool → World → Prop) := (thenQ (fun env => getE env zf1o_l3 fun (x : Unit) => zf1o_2 R) (zf1o_q1 R))
abbrev zf1o_l4 : Slots := [(0, .sl), (1, .sl)]
abbrev zf1o_l5 : Slots := [(5, I)]
abbrev zf1o_l6 : Slots := [(0, .sl), (1, .sl)]
abbrev zf1o_q3 (c1 : (Int × Unit) → (Sl × Sl × Unit) → World → Prop) (R : Bool → World → Prop) := (thenQ (fun env => getE env zf1o_l5 fun (s : Int × Unit) => getE env zf1o_l6 (c1 s)) (blockQ 0 ((zf1o_q2 R) .normal) (zf1o_q2 R)))
def zf1o_5 (c1 : (Int × Unit) → (Sl × Sl × Unit) → World → Prop) (R : Bool → World → Prop) (i_5 : Int) (a_0 : Sl) (b_1 : Sl) : World → Prop :=
 mif (decide (i_5 < (a_0.len : Int)))
 (mdraw <|
 ixa P zt8 (Sl.v a_0) i_5 fun x1 =>
 ld P zth x1 zk6 fun (x2 : zT6) =>
 ixa P zt8 (Sl.v b_1) i_5 fun x3 =>
 ld P zth x3 zk6 fun (x4 : zT6) =>
 meq P .neq zth (KV zk6 x2) (KV zk6 x4) fun x5 =>
 mif x5
 (R false)
 (c1 (w64 (i_5 + 1), ()) (a_0, b_1, ())))
 (zf1o_2 R)
def zf1o_4 (R : Bool → World → Prop) (i_5 : Int) (a_0 : Sl) (b_1 : Sl) : World → Prop :=
 W.Loop (a_0, b_1, ()) (fun (c1 : (Int × Unit) → (Sl × Sl × Unit) → World → Prop) (s : Int × Unit) => zf1o_5 c1 R s.1 a_0 b_1) (i_5, ())
def zf1o_3 (R : Bool → World → Prop) (a_0 : Sl) (b_1 : Sl) : World → Prop :=
 zf1o_4 R 0 a_0 b_1
def zf1o_1 (R : Bool → World → Prop) (a_0 : Sl) (b_1 : Sl) : World → Prop :=
 zf1o_3 R a_0 b_1
def zf1o_0 (R : Bool → World → Prop) (a_0 : Sl) (b_1 : Sl) : World → Prop :=
 mif ((a_0.len : Int) != (b_1.len : Int))
 (R false)
 (zf1o_1 R a_0 b_1)
theorem zf1o_2_ok (R : Bool → World → Prop) (x : Unit) (w : World) (h : zf1o_2 R w) : WPC P 26 [] (Code.at zf1o_B [.snd, .snd, .snd]) (zf1o_q1 R) (mkE 26 zf1o_l3 x) w :=
  pc_end h
theorem zf1o_5_ok (c1 : (Int × Unit) → (Sl × Sl × Unit) → World → Prop) (R : Bool → World → Prop) (x : Int × Unit) (y : Sl × Sl × Unit) (w : World) (h : zf1o_5 c1 R x.1 y.1 y.2.1 w) : WPC P 26 [] (Code.at zf1o_B [.snd, .snd, .fst, .snd, .blk, .blk]) (zf1o_q3 c1 R) (mkE2 26 zf1o_l5 zf1o_l6 x y) w :=
  pc_end h
theorem zf1o_4_ok (R : Bool → World → Prop) (x : Int × Unit) (y : Sl × Sl × Unit) (w : World) (h : zf1o_4 R x.1 y.1 y.2.1 w) : WPC P 26 [] (Code.at zf1o_B [.snd, .snd, .fst, .snd]) (zf1o_q2 R) (mkE2 26 zf1o_l5 zf1o_l6 x y) w :=
  pc_loopE (l := zf1o_l5) (l' := zf1o_l6) (id := 0) (b := (Code.at zf1o_B [.snd, .snd, .fst, .snd, .blk, .blk])) (fun c1 s => zf1o_5_ok c1 R s y) h
theorem zf1o_3_ok (R : Bool → World → Prop) (x : Sl × Sl × Unit) (w : World) (h : zf1o_3 R x.1 x.2.1 w) : WPC P 26 [] (Code.at zf1o_B [.snd, .snd, .fst]) (zf1o_q2 R) (mkE 26 zf1o_l4 x) w :=
  pc_cut2 (l := zf1o_l5) (l' := zf1o_l6) 1 (zf1o_4_ok R) h
theorem zf1o_1_ok (R : Bool → World → Prop) (x : Sl × Sl × Unit) (w : World) (h : zf1o_1 R x.1 x.2.1 w) : WPC P 26 [] (Code.at zf1o_B [.snd, .snd]) (zf1o_q1 R) (mkE 26 zf1o_l2 x) w :=
  pc_seq (l := zf1o_l3) (a := (Code.at zf1o_B [.snd, .snd, .fst])) (b := (Code.at zf1o_B [.snd, .snd, .snd])) (pc_cut (l := zf1o_l4) (c := (Code.at zf1o_B [.snd, .snd, .fst])) 0 (zf1o_3_ok R) h) (zf1o_2_ok R)
theorem zf1o_0_ok (R : Bool → World → Prop) (x : Sl × Sl × Unit) (w : World) (h : zf1o_0 R x.1 x.2.1 w) : WPC P 26 [] (Code.at zf1o_B []) (zf1o_q1 R) (mkE 26 zf1o_l1 x) w :=
  pc_cut (l := zf1o_l2) 2 (zf1o_1_ok R) h
theorem zf1o_call (R : Bool → World → Prop) (a_0 : Sl) (b_1 : Sl) (w : World) (h : zf1o_0 R a_0 b_1 w) : mcall P n_zf1o [(Sl.v a_0), (Sl.v b_1)] .b R w :=
  pc_top (l := zf1o_l1) (c := zf1o_B) Tryz.func63 (zf1o_0_ok R) h
noncomputable abbrev zf1p_B : Code := (Tryz.f64.body).getD .skip
abbrev zf1p_q1 (R : (Option Addr × Int × Unit) → World → Prop) := (topQ P [.tmp 4, .tmp 5] (.tup [.p, I]) R)
abbrev zf1p_l1 : Slots := [(0, .p), (1, .s)]
abbrev zf1p_l2 : Slots := [(0, .p), (6, .ad), (7, .sl), (8, .s)]
abbrev zf1p_l3 : Slots := [(0, .p), (6, .ad), (7, .sl), (8, .s)]
abbrev zf1p_l4 : Slots := [(0, .p), (6, .ad), (8, .s)]
abbrev zf1p_l5 : Slots := [(6, .ad)]
def zf1p_4 (R : (Option Addr × Int × Unit) → World → Prop) (l_6 : Addr) : World → Prop :=
 ld P zt1 (ad l_6 4) I fun (x7 : Int) =>
 sto P zt1 (ad l_6 5) I x7 <|
 R ((some l_6), 0, ())
def zf1p_3 (R : (Option Addr × Int × Unit) → World → Prop) (d_0 : Option Addr) (l_6 : Addr) (last_8 : Bs) : World → Prop :=
 mif (!(last_8 == []))
 (mcall P n_zf1d [(.pointer d_0), (.string ⟨last_8.toArray⟩)] I fun (x6 : Int) =>
 mif (x6 != 0)
 (R (none, x6, ()))
 (zf1p_4 R l_6))
 (zf1p_4 R l_6)
abbrev zf1p_q2 (R : (Option Addr × Int × Unit) → World → Prop) := (thenQ (fun env => getE env zf1p_l4 fun (x : Option Addr × Addr × Bs × Unit) => zf1p_3 R x.1 x.2.1 x.2.2.1) (zf1p_q1 R))
abbrev zf1p_l6 : Slots := [(0, .p), (6, .ad), (7, .sl), (8, .s)]
abbrev zf1p_l7 : Slots := [(56, I)]
abbrev zf1p_l8 : Slots := [(0, .p), (6, .ad), (8, .s), (54, .sl), (55, I)]
abbrev zf1p_q3 (c1 : (Int × Unit) → (Option Addr × Addr × Bs × Sl × Int × Unit) → World → Prop) (R : (Option Addr × Int × Unit) → World → Prop) := (thenQ (fun env => getE env zf1p_l7 fun (s : Int × Unit) => getE env zf1p_l8 (c1 s)) (blockQ 3 ((zf1p_q2 R) .normal) (zf1p_q2 R)))
abbrev zf1p_l9 : Slots := [(0, .p), (6, .ad), (8, .s), (54, .sl), (55, I), (56, I)]
def zf1p_8 (c1 : (Int × Unit) → (Option Addr × Addr × Bs × Sl × Int × Unit) → World → Prop) (R : (Option Addr × Int × Unit) → World → Prop) (d_0 : Option Addr) (l_6 : Addr) (last_8 : Bs) (v54 : Sl) (v55 : Int) (v56 : Int) : World → Prop :=
 c1 (w64 (v56 + 1), ()) (d_0, l_6, last_8, v54, v55, ())
def zf1p_7 (c1 : (Int × Unit) → (Option Addr × Addr × Bs × Sl × Int × Unit) → World → Prop) (R : (Option Addr × Int × Unit) → World → Prop) (v56 : Int) (d_0 : Option Addr) (l_6 : Addr) (last_8 : Bs) (v54 : Sl) (v55 : Int) : World → Prop :=
 mif (decide (v56 < v55))
 (ixa P ztm (Sl.v v54) v56 fun x8 =>
 ld P ztn x8 zk9 fun (x9 : zT9) =>
 alo P ztn fun a10 =>
 sto P ztn a10 zk9 x9 <|
 ld P zt4 a10 .s fun (x11 : Bs) =>
 mcall P n_zf34 [(.pointer (some l_6)), (.string ⟨x11.toArray⟩)] (.tup [I, .b]) fun (x12 : Int × Bool × Unit) =>
 mif (!x12.2.1)
 (zf1p_8 c1 R d_0 l_6 last_8 v54 v55 v56)
 (ld P zt12 (ad l_6 2) .sl fun (x13 : Sl) =>
 mif ((x13.len : Int) == 0)
 (sto P zt1 (ad l_6 3) I x12.1 <|
 sto P zt1 (ad l_6 4) I x12.1 <|
 ld P zt1 (ad l_6 4) I fun (x14 : Int) =>
 mif (x12.1 != x14)
 (R (none, 2, ()))
 (ld P zt4 (ad a10 1) .s fun (x15 : Bs) =>
 ld P zt4 (ad a10 2) .s fun (x16 : Bs) =>
 mcat x15 x16 fun s17 =>
 mcall P n_zf35 [(.pointer (some l_6)), (.int .i64 x12.1), (.string ⟨s17.toArray⟩)] I fun (x18 : Int) =>
 ld P zt4 (ad a10 1) .s fun (x19 : Bs) =>
 ld P zt4 (ad a10 2) .s fun (x20 : Bs) =>
 mif (x18 == (w64 ((x19.length : Int) + (x20.length : Int))))
 (zf1p_8 c1 R d_0 l_6 last_8 v54 v55 v56)
 (ld P zt4 a10 .s fun (x21 : Bs) =>
 mif (!(x21 == last_8))
 (R (none, 2, ()))
 (ld P zt4 a10 .s fun (x22 : Bs) =>
 mcall P n_zf36 [(.pointer d_0), (.string ⟨x22.toArray⟩), (.int .i64 x18)] I fun (x23 : Int) =>
 mif (x23 != 0)
 (R (none, x23, ()))
 (zf1p_8 c1 R d_0 l_6 last_8 v54 v55 v56)))))
 (ld P zt1 (ad l_6 4) I fun (x24 : Int) =>
 mif (x12.1 != x24)
 (R (none, 2, ()))
 (ld P zt4 (ad a10 1) .s fun (x25 : Bs) =>
 ld P zt4 (ad a10 2) .s fun (x26 : Bs) =>
 mcat x25 x26 fun s27 =>
 mcall P n_zf35 [(.pointer (some l_6)), (.int .i64 x12.1), (.string ⟨s27.toArray⟩)] I fun (x28 : Int) =>
 ld P zt4 (ad a10 1) .s fun (x29 : Bs) =>
 ld P zt4 (ad a10 2) .s fun (x30 : Bs) =>
 mif (x28 == (w64 ((x29.length : Int) + (x30.length : Int))))
 (zf1p_8 c1 R d_0 l_6 last_8 v54 v55 v56)
 (ld P zt4 a10 .s fun (x31 : Bs) =>
 mif (!(x31 == last_8))
 (R (none, 2, ()))
 (ld P zt4 a10 .s fun (x32 : Bs) =>
 mcall P n_zf36 [(.pointer d_0), (.string ⟨x32.toArray⟩), (.int .i64 x28)] I fun (x33 : Int) =>
 mif (x33 != 0)
 (R (none, x33, ()))
 (zf1p_8 c1 R d_0 l_6 last_8 v54 v55 v56)))))))
 (zf1p_3 R d_0 l_6 last_8)
def zf1p_6 (R : (Option Addr × Int × Unit) → World → Prop) (v56 : Int) (d_0 : Option Addr) (l_6 : Addr) (last_8 : Bs) (v54 : Sl) (v55 : Int) : World → Prop :=
 W.Loop (d_0, l_6, last_8, v54, v55, ()) (fun (c1 : (Int × Unit) → (Option Addr × Addr × Bs × Sl × Int × Unit) → World → Prop) (s : Int × Unit) => zf1p_7 c1 R s.1 d_0 l_6 last_8 v54 v55) (v56, ())
def zf1p_5 (R : (Option Addr × Int × Unit) → World → Prop) (d_0 : Option Addr) (l_6 : Addr) (files_7 : Sl) (last_8 : Bs) : World → Prop :=
 zf1p_6 R 0 d_0 l_6 last_8 files_7 (files_7.len : Int)
def zf1p_2 (R : (Option Addr × Int × Unit) → World → Prop) (d_0 : Option Addr) (l_6 : Addr) (files_7 : Sl) (last_8 : Bs) : World → Prop :=
 zf1p_5 R d_0 l_6 files_7 last_8
abbrev zf1p_q4 (R : (Option Addr × Int × Unit) → World → Prop) := (thenQ (fun env => getE env zf1p_l3 fun (x : Option Addr × Addr × Sl × Bs × Unit) => zf1p_2 R x.1 x.2.1 x.2.2.1 x.2.2.2.1) (zf1p_q1 R))
abbrev zf1p_l10 : Slots := [(0, .p), (6, .ad), (7, .sl), (8, .s)]
abbrev zf1p_l11 : Slots := [(8, .s), (39, I)]
abbrev zf1p_l12 : Slots := [(0, .p), (6, .ad), (7, .sl), (37, .sl), (38, I)]
abbrev zf1p_q5 (c1 : (Bs × Int × Unit) → (Option Addr × Addr × Sl × Sl × Int × Unit) → World → Prop) (R : (Option Addr × Int × Unit) → World → Prop) := (thenQ (fun env => getE env zf1p_l11 fun (s : Bs × Int × Unit) => getE env zf1p_l12 (c1 s)) (blockQ 1 ((zf1p_q4 R) .normal) (zf1p_q4 R)))
abbrev zf1p_l13 : Slots := [(0, .p), (6, .ad), (7, .sl), (8, .s), (37, .sl), (38, I), (39, I)]
def zf1p_12 (c1 : (Bs × Int × Unit) → (Option Addr × Addr × Sl × Sl × Int × Unit) → World → Prop) (R : (Option Addr × Int × Unit) → World → Prop) (d_0 : Option Addr) (l_6 : Addr) (files_7 : Sl) (last_8 : Bs) (v37 : Sl) (v38 : Int) (v39 : Int) : World → Prop :=
 c1 (last_8, w64 (v39 + 1), ()) (d_0, l_6, files_7, v37, v38, ())
def zf1p_11 (c1 : (Bs × Int × Unit) → (Option Addr × Addr × Sl × Sl × Int × Unit) → World → Prop) (R : (Option Addr × Int × Unit) → World → Prop) (last_8 : Bs) (v39 : Int) (d_0 : Option Addr) (l_6 : Addr) (files_7 : Sl) (v37 : Sl) (v38 : Int) : World → Prop :=
 mif (decide (v39 < v38))
 (ixa P ztm (Sl.v v37) v39 fun x34 =>
 ld P ztn x34 zk9 fun (x35 : zT9) =>
 alo P ztn fun a36 =>
 sto P ztn a36 zk9 x35 <|
 ld P zt4 a36 .s fun (x37 : Bs) =>
 mcall P n_zf34 [(.pointer (some l_6)), (.string ⟨x37.toArray⟩)] (.tup [I, .b]) fun (x38 : Int × Bool × Unit) =>
 mif x38.2.1
 (ld P zt4 a36 .s fun (x39 : Bs) =>
 zf1p_12 c1 R d_0 l_6 files_7 x39 v37 v38 v39)
 (zf1p_12 c1 R d_0 l_6 files_7 last_8 v37 v38 v39))
 (zf1p_2 R d_0 l_6 files_7 last_8)
def zf1p_10 (R : (Option Addr × Int × Unit) → World → Prop) (last_8 : Bs) (v39 : Int) (d_0 : Option Addr) (l_6 : Addr) (files_7 : Sl) (v37 : Sl) (v38 : Int) : World → Prop :=
 W.Loop (d_0, l_6, files_7, v37, v38, ()) (fun (c1 : (Bs × Int × Unit) → (Option Addr × Addr × Sl × Sl × Int × Unit) → World → Prop) (s : Bs × Int × Unit) => zf1p_11 c1 R s.1 s.2.1 d_0 l_6 files_7 v37 v38) (last_8, v39, ())
def zf1p_9 (R : (Option Addr × Int × Unit) → World → Prop) (d_0 : Option Addr) (l_6 : Addr) (files_7 : Sl) (last_8 : Bs) : World → Prop :=
 zf1p_10 R last_8 0 d_0 l_6 files_7 files_7 (files_7.len : Int)
def zf1p_1 (R : (Option Addr × Int × Unit) → World → Prop) (d_0 : Option Addr) (l_6 : Addr) (files_7 : Sl) (last_8 : Bs) : World → Prop :=
 zf1p_9 R d_0 l_6 files_7 last_8
def zf1p_0 (R : (Option Addr × Int × Unit) → World → Prop) (d_0 : Option Addr) (name_1 : Bs) : World → Prop :=
 meq P .eql zte (.pointer d_0) (.pointer none) fun x1 =>
 mif x1
 (R (none, 1, ()))
 (mcall P n_zf32 [(.string ⟨name_1.toArray⟩)] .b fun (x2 : Bool) =>
 mif (!x2)
 (R (none, 1, ()))
 (mcall P n_zf33 [(.pointer d_0)] .b fun (x3 : Bool) =>
 mif x3
 (R (none, 4, ()))
 (bx P zt13 zkb (d_0, name_1, ⟨none, 0, 0⟩, 0, 0, 0, 0, ()) fun a4 =>
 mcall P n_zf19 [(.pointer d_0)] .sl fun (x5 : Sl) =>
 zf1p_1 R d_0 a4 x5 [])))
theorem zf1p_4_ok (R : (Option Addr × Int × Unit) → World → Prop) (x : Addr × Unit) (w : World) (h : zf1p_4 R x.1 w) : WPC P 135 [] (Code.at zf1p_B [.snd, .snd, .snd, .snd, .snd, .snd, .snd, .snd]) (zf1p_q1 R) (mkE 135 zf1p_l5 x) w :=
  pc_end h
theorem zf1p_3_ok (R : (Option Addr × Int × Unit) → World → Prop) (x : Option Addr × Addr × Bs × Unit) (w : World) (h : zf1p_3 R x.1 x.2.1 x.2.2.1 w) : WPC P 135 [] (Code.at zf1p_B [.snd, .snd, .snd, .snd, .snd, .snd, .snd]) (zf1p_q1 R) (mkE 135 zf1p_l4 x) w :=
  pc_cut (l := zf1p_l5) 1 (zf1p_4_ok R) h
theorem zf1p_8_ok (c1 : (Int × Unit) → (Option Addr × Addr × Bs × Sl × Int × Unit) → World → Prop) (R : (Option Addr × Int × Unit) → World → Prop) (x : Option Addr × Addr × Bs × Sl × Int × Int × Unit) (w : World) (h : zf1p_8 c1 R x.1 x.2.1 x.2.2.1 x.2.2.2.1 x.2.2.2.2.1 x.2.2.2.2.2.1 w) : WPC P 135 [] (Code.at zf1p_B [.snd, .snd, .snd, .snd, .snd, .snd, .fst, .snd, .blk, .blk, .snd, .snd, .snd]) (zf1p_q3 c1 R) (mkE 135 zf1p_l9 x) w :=
  pc_end h
theorem zf1p_7_ok (c1 : (Int × Unit) → (Option Addr × Addr × Bs × Sl × Int × Unit) → World → Prop) (R : (Option Addr × Int × Unit) → World → Prop) (x : Int × Unit) (y : Option Addr × Addr × Bs × Sl × Int × Unit) (w : World) (h : zf1p_7 c1 R x.1 y.1 y.2.1 y.2.2.1 y.2.2.2.1 y.2.2.2.2.1 w) : WPC P 135 [] (Code.at zf1p_B [.snd, .snd, .snd, .snd, .snd, .snd, .fst, .snd, .blk, .blk]) (zf1p_q3 c1 R) (mkE2 135 zf1p_l7 zf1p_l8 x y) w :=
  pc_cut (l := zf1p_l9) 3 (zf1p_8_ok c1 R) h
theorem zf1p_6_ok (R : (Option Addr × Int × Unit) → World → Prop) (x : Int × Unit) (y : Option Addr × Addr × Bs × Sl × Int × Unit) (w : World) (h : zf1p_6 R x.1 y.1 y.2.1 y.2.2.1 y.2.2.2.1 y.2.2.2.2.1 w) : WPC P 135 [] (Code.at zf1p_B [.snd, .snd, .snd, .snd, .snd, .snd, .fst, .snd]) (zf1p_q2 R) (mkE2 135 zf1p_l7 zf1p_l8 x y) w :=
  pc_loopE (l := zf1p_l7) (l' := zf1p_l8) (id := 3) (b := (Code.at zf1p_B [.snd, .snd, .snd, .snd, .snd, .snd, .fst, .snd, .blk, .blk])) (fun c1 s => zf1p_7_ok c1 R s y) h
theorem zf1p_5_ok (R : (Option Addr × Int × Unit) → World → Prop) (x : Option Addr × Addr × Sl × Bs × Unit) (w : World) (h : zf1p_5 R x.1 x.2.1 x.2.2.1 x.2.2.2.1 w) : WPC P 135 [] (Code.at zf1p_B [.snd, .snd, .snd, .snd, .snd, .snd, .fst]) (zf1p_q2 R) (mkE 135 zf1p_l6 x) w :=
  pc_cut2 (l := zf1p_l7) (l' := zf1p_l8) 1 (zf1p_6_ok R) h
theorem zf1p_2_ok (R : (Option Addr × Int × Unit) → World → Prop) (x : Option Addr × Addr × Sl × Bs × Unit) (w : World) (h : zf1p_2 R x.1 x.2.1 x.2.2.1 x.2.2.2.1 w) : WPC P 135 [] (Code.at zf1p_B [.snd, .snd, .snd, .snd, .snd, .snd]) (zf1p_q1 R) (mkE 135 zf1p_l3 x) w :=
  pc_seq (l := zf1p_l4) (a := (Code.at zf1p_B [.snd, .snd, .snd, .snd, .snd, .snd, .fst])) (b := (Code.at zf1p_B [.snd, .snd, .snd, .snd, .snd, .snd, .snd])) (pc_cut (l := zf1p_l6) (c := (Code.at zf1p_B [.snd, .snd, .snd, .snd, .snd, .snd, .fst])) 0 (zf1p_5_ok R) h) (zf1p_3_ok R)
theorem zf1p_12_ok (c1 : (Bs × Int × Unit) → (Option Addr × Addr × Sl × Sl × Int × Unit) → World → Prop) (R : (Option Addr × Int × Unit) → World → Prop) (x : Option Addr × Addr × Sl × Bs × Sl × Int × Int × Unit) (w : World) (h : zf1p_12 c1 R x.1 x.2.1 x.2.2.1 x.2.2.2.1 x.2.2.2.2.1 x.2.2.2.2.2.1 x.2.2.2.2.2.2.1 w) : WPC P 135 [] (Code.at zf1p_B [.snd, .snd, .snd, .snd, .snd, .fst, .snd, .blk, .blk, .snd, .snd, .snd]) (zf1p_q5 c1 R) (mkE 135 zf1p_l13 x) w :=
  pc_end h
theorem zf1p_11_ok (c1 : (Bs × Int × Unit) → (Option Addr × Addr × Sl × Sl × Int × Unit) → World → Prop) (R : (Option Addr × Int × Unit) → World → Prop) (x : Bs × Int × Unit) (y : Option Addr × Addr × Sl × Sl × Int × Unit) (w : World) (h : zf1p_11 c1 R x.1 x.2.1 y.1 y.2.1 y.2.2.1 y.2.2.2.1 y.2.2.2.2.1 w) : WPC P 135 [] (Code.at zf1p_B [.snd, .snd, .snd, .snd, .snd, .fst, .snd, .blk, .blk]) (zf1p_q5 c1 R) (mkE2 135 zf1p_l11 zf1p_l12 x y) w :=
  pc_cut (l := zf1p_l13) 3 (zf1p_12_ok c1 R) h
theorem zf1p_10_ok (R : (Option Addr × Int × Unit) → World → Prop) (x : Bs × Int × Unit) (y : Option Addr × Addr × Sl × Sl × Int × Unit) (w : World) (h : zf1p_10 R x.1 x.2.1 y.1 y.2.1 y.2.2.1 y.2.2.2.1 y.2.2.2.2.1 w) : WPC P 135 [] (Code.at zf1p_B [.snd, .snd, .snd, .snd, .snd, .fst, .snd]) (zf1p_q4 R) (mkE2 135 zf1p_l11 zf1p_l12 x y) w :=
  pc_loopE (l := zf1p_l11) (l' := zf1p_l12) (id := 1) (b := (Code.at zf1p_B [.snd, .snd, .snd, .snd, .snd, .fst, .snd, .blk, .blk])) (fun c1 s => zf1p_11_ok c1 R s y) h
theorem zf1p_9_ok (R : (Option Addr × Int × Unit) → World → Prop) (x : Option Addr × Addr × Sl × Bs × Unit) (w : World) (h : zf1p_9 R x.1 x.2.1 x.2.2.1 x.2.2.2.1 w) : WPC P 135 [] (Code.at zf1p_B [.snd, .snd, .snd, .snd, .snd, .fst]) (zf1p_q4 R) (mkE 135 zf1p_l10 x) w :=
  pc_cut2 (l := zf1p_l11) (l' := zf1p_l12) 1 (zf1p_10_ok R) h
theorem zf1p_1_ok (R : (Option Addr × Int × Unit) → World → Prop) (x : Option Addr × Addr × Sl × Bs × Unit) (w : World) (h : zf1p_1 R x.1 x.2.1 x.2.2.1 x.2.2.2.1 w) : WPC P 135 [] (Code.at zf1p_B [.snd, .snd, .snd, .snd, .snd]) (zf1p_q1 R) (mkE 135 zf1p_l2 x) w :=
  pc_seq (l := zf1p_l3) (a := (Code.at zf1p_B [.snd, .snd, .snd, .snd, .snd, .fst])) (b := (Code.at zf1p_B [.snd, .snd, .snd, .snd, .snd, .snd])) (pc_cut (l := zf1p_l10) (c := (Code.at zf1p_B [.snd, .snd, .snd, .snd, .snd, .fst])) 0 (zf1p_9_ok R) h) (zf1p_2_ok R)
theorem zf1p_0_ok (R : (Option Addr × Int × Unit) → World → Prop) (x : Option Addr × Bs × Unit) (w : World) (h : zf1p_0 R x.1 x.2.1 w) : WPC P 135 [] (Code.at zf1p_B []) (zf1p_q1 R) (mkE 135 zf1p_l1 x) w :=
  pc_cut (l := zf1p_l2) 5 (zf1p_1_ok R) h
theorem zf1p_call (R : (Option Addr × Int × Unit) → World → Prop) (d_0 : Option Addr) (name_1 : Bs) (w : World) (h : zf1p_0 R d_0 name_1 w) : mcall P n_zf1p [(.pointer d_0), (.string ⟨name_1.toArray⟩)] (.tup [.p, I]) R w :=
  pc_top (l := zf1p_l1) (c := zf1p_B) Tryz.func64 (zf1p_0_ok R) h
noncomputable abbrev zf1q_B : Code := (Tryz.f65.body).getD .skip
abbrev zf1q_q1 (R : Int → World → Prop) := (topQ P [.tmp 2] I R)
abbrev zf1q_l1 : Slots := [(0, .p)]
def zf1q_0 (R : Int → World → Prop) (l_0 : Option Addr) : World → Prop :=
 meq P .eql zts (.pointer l_0) (.pointer none) fun x1 =>
 mif x1
 (R 0)
 (mnil l_0 fun a2 =>
 ld P zt1 (ad a2 3) I fun (x3 : Int) =>
 R x3)
theorem zf1q_0_ok (R : Int → World → Prop) (x : Option Addr × Unit) (w : World) (h : zf1q_0 R x.1 w) : WPC P 9 [] (Code.at zf1q_B []) (zf1q_q1 R) (mkE 9 zf1q_l1 x) w :=
  pc_end h
theorem zf1q_call (R : Int → World → Prop) (l_0 : Option Addr) (w : World) (h : zf1q_0 R l_0 w) : mcall P n_zf1q [(.pointer l_0)] I R w :=
  pc_top (l := zf1q_l1) (c := zf1q_B) Tryz.func65 (zf1q_0_ok R) h
noncomputable abbrev zf1r_B : Code := (Tryz.f66.body).getD .skip
abbrev zf1r_q1 (R : Int → World → Prop) := (topQ P [.tmp 2] I R)
abbrev zf1r_l1 : Slots := [(0, .p)]
def zf1r_0 (R : Int → World → Prop) (l_0 : Option Addr) : World → Prop :=
 meq P .eql zts (.pointer l_0) (.pointer none) fun x1 =>
 mif x1
 (R 0)
 (mnil l_0 fun a2 =>
 ld P zt1 (ad a2 4) I fun (x3 : Int) =>
 R x3)
theorem zf1r_0_ok (R : Int → World → Prop) (x : Option Addr × Unit) (w : World) (h : zf1r_0 R x.1 w) : WPC P 9 [] (Code.at zf1r_B []) (zf1r_q1 R) (mkE 9 zf1r_l1 x) w :=
  pc_end h
theorem zf1r_call (R : Int → World → Prop) (l_0 : Option Addr) (w : World) (h : zf1r_0 R l_0 w) : mcall P n_zf1r [(.pointer l_0)] I R w :=
  pc_top (l := zf1r_l1) (c := zf1r_B) Tryz.func66 (zf1r_0_ok R) h
noncomputable abbrev zf1t_B : Code := (Tryz.f68.body).getD .skip
abbrev zf1t_q1 (R : (zT1 × Int × Unit) → World → Prop) := (topQ P [.cell 2 ztj, .tmp 3] (.tup [zk1, I]) R)
abbrev zf1t_l1 : Slots := [(0, .s)]
abbrev zf1t_l2 : Slots := [(0, .s), (2, .ad), (4, .sl), (6, .ad)]
abbrev zf1t_l3 : Slots := [(0, .s), (2, .ad), (6, .ad)]
def zf1t_2 (R : (zT1 × Int × Unit) → World → Prop) (s_0 : Bs) (v2 : Addr) (b_6 : Addr) : World → Prop :=
 mif (!(s_0 == []))
 (sto P ztj v2 zk1 (0, 0, 0, 0, ⟨none, 0, 0⟩, ()) <|
 ld P ztj v2 zk1 fun (x19 : zT1) =>
 R (x19, 2, ()))
 (ld P ztj b_6 zk1 fun (x20 : zT1) =>
 mcall P n_zf3a [(KV zk1 x20)] I fun (x21 : Int) =>
 mif (x21 != 0)
 (sto P ztj v2 zk1 (0, 0, 0, 0, ⟨none, 0, 0⟩, ()) <|
 ld P ztj v2 zk1 fun (x22 : zT1) =>
 R (x22, 2, ()))
 (ld P ztj b_6 zk1 fun (x23 : zT1) =>
 sto P ztj v2 zk1 x23 <|
 ld P ztj v2 zk1 fun (x24 : zT1) =>
 R (x24, 0, ())))
abbrev zf1t_q2 (R : (zT1 × Int × Unit) → World → Prop) := (thenQ (fun env => getE env zf1t_l3 fun (x : Bs × Addr × Addr × Unit) => zf1t_2 R x.1 x.2.1 x.2.2.1) (zf1t_q1 R))
abbrev zf1t_l4 : Slots := [(0, .s), (2, .ad), (4, .sl), (6, .ad)]
abbrev zf1t_l5 : Slots := [(0, .s), (47, I)]
abbrev zf1t_l6 : Slots := [(2, .ad), (6, .ad), (46, I)]
abbrev zf1t_q3 (c1 : (Bs × Int × Unit) → (Addr × Addr × Int × Unit) → World → Prop) (R : (zT1 × Int × Unit) → World → Prop) := (thenQ (fun env => getE env zf1t_l5 fun (s : Bs × Int × Unit) => getE env zf1t_l6 (c1 s)) (blockQ 0 ((zf1t_q2 R) .normal) (zf1t_q2 R)))
def zf1t_5 (c1 : (Bs × Int × Unit) → (Addr × Addr × Int × Unit) → World → Prop) (R : (zT1 × Int × Unit) → World → Prop) (s_0 : Bs) (v47 : Int) (v2 : Addr) (b_6 : Addr) (v46 : Int) : World → Prop :=
 mif (decide (v47 < v46))
 (mcall P n_zf2y [(.string ⟨s_0.toArray⟩)] (.tup [zk2, .s, I]) fun (x27 : zT2 × Bs × Int × Unit) =>
 alo P ztc fun a28 =>
 sto P ztc a28 zk2 x27.1 <|
 mif (x27.2.2.1 != 0)
 (sto P ztj v2 zk1 (0, 0, 0, 0, ⟨none, 0, 0⟩, ()) <|
 ld P ztj v2 zk1 fun (x29 : zT1) =>
 R (x29, x27.2.2.1, ()))
 (ld P zt6 (ad b_6 4) .sl fun (x30 : Sl) =>
 ld P ztc a28 zk2 fun (x31 : zT2) =>
 bsl P zt6 zk2 [x31] fun x32 =>
 app P #[zt6, zt6] zt6 (Sl.v x30) (Sl.v x32) fun x33 =>
 sto P zt6 (ad b_6 4) .sl x33 <|
 c1 (x27.2.1, w64 (v47 + 1), ()) (v2, b_6, v46, ())))
 (zf1t_2 R s_0 v2 b_6)
def zf1t_4 (R : (zT1 × Int × Unit) → World → Prop) (s_0 : Bs) (v47 : Int) (v2 : Addr) (b_6 : Addr) (v46 : Int) : World → Prop :=
 W.Loop (v2, b_6, v46, ()) (fun (c1 : (Bs × Int × Unit) → (Addr × Addr × Int × Unit) → World → Prop) (s : Bs × Int × Unit) => zf1t_5 c1 R s.1 s.2.1 v2 b_6 v46) (s_0, v47, ())
def zf1t_3 (R : (zT1 × Int × Unit) → World → Prop) (s_0 : Bs) (v2 : Addr) (l_4 : Sl) (b_6 : Addr) : World → Prop :=
 ixa P zt7 (Sl.v l_4) 4 fun x25 =>
 ld P zt1 x25 I fun (x26 : Int) =>
 zf1t_4 R s_0 0 v2 b_6 x26
def zf1t_1 (R : (zT1 × Int × Unit) → World → Prop) (s_0 : Bs) (v2 : Addr) (l_4 : Sl) (b_6 : Addr) : World → Prop :=
 zf1t_3 R s_0 v2 l_4 b_6
def zf1t_0 (R : (zT1 × Int × Unit) → World → Prop) (s_0 : Bs) : World → Prop :=
 alo P ztj fun a1 =>
 mcall P n_zf2z [(.string ⟨s_0.toArray⟩), (.int .i64 5)] (.tup [.sl, .s, I]) fun (x2 : Sl × Bs × Int × Unit) =>
 mif (x2.2.2.1 != 0)
 (sto P ztj a1 zk1 (0, 0, 0, 0, ⟨none, 0, 0⟩, ()) <|
 ld P ztj a1 zk1 fun (x3 : zT1) =>
 R (x3, 2, ()))
 (ixa P zt7 (Sl.v x2.1) 4 fun x4 =>
 ld P zt1 x4 I fun (x5 : Int) =>
 mif (decide (x5 < 0))
 (sto P ztj a1 zk1 (0, 0, 0, 0, ⟨none, 0, 0⟩, ()) <|
 ld P ztj a1 zk1 fun (x6 : zT1) =>
 R (x6, 2, ()))
 (ixa P zt7 (Sl.v x2.1) 4 fun x7 =>
 ld P zt1 x7 I fun (x8 : Int) =>
 mif (decide (x8 > 64))
 (sto P ztj a1 zk1 (0, 0, 0, 0, ⟨none, 0, 0⟩, ()) <|
 ld P ztj a1 zk1 fun (x9 : zT1) =>
 R (x9, 2, ()))
 (mdraw <|
 ixa P zt7 (Sl.v x2.1) 0 fun x10 =>
 ld P zt1 x10 I fun (x11 : Int) =>
 ixa P zt7 (Sl.v x2.1) 1 fun x12 =>
 ld P zt1 x12 I fun (x13 : Int) =>
 ixa P zt7 (Sl.v x2.1) 2 fun x14 =>
 ld P zt1 x14 I fun (x15 : Int) =>
 ixa P zt7 (Sl.v x2.1) 3 fun x16 =>
 ld P zt1 x16 I fun (x17 : Int) =>
 alo P ztj fun a18 =>
 mst P (Instr.loadAt zt1 (.pointer (some x16))) (.int .i64 x17) <|
 mst P (Instr.indexAt zt7 (.slice x2.1.a x2.1.len x2.1.cap) (.int .i64 3)) (.pointer (some x16)) <|
 mst P (Instr.loadAt zt1 (.pointer (some x14))) (.int .i64 x15) <|
 mst P (Instr.indexAt zt7 (.slice x2.1.a x2.1.len x2.1.cap) (.int .i64 2)) (.pointer (some x14)) <|
 mst P (Instr.loadAt zt1 (.pointer (some x12))) (.int .i64 x13) <|
 mst P (Instr.indexAt zt7 (.slice x2.1.a x2.1.len x2.1.cap) (.int .i64 1)) (.pointer (some x12)) <|
 mst P (Instr.loadAt zt1 (.pointer (some x10))) (.int .i64 x11) <|
 mst P (Instr.indexAt zt7 (.slice x2.1.a x2.1.len x2.1.cap) (.int .i64 0)) (.pointer (some x10)) <|
 sto P ztj a18 zk1 (x11, x13, x15, x17, ⟨none, 0, 0⟩, ()) <|
 zf1t_1 R x2.2.1 a1 x2.1 a18)))
theorem zf1t_2_ok (R : (zT1 × Int × Unit) → World → Prop) (x : Bs × Addr × Addr × Unit) (w : World) (h : zf1t_2 R x.1 x.2.1 x.2.2.1 w) : WPC P 76 [] (Code.at zf1t_B [.snd, .snd, .snd, .snd, .snd]) (zf1t_q1 R) (mkE 76 zf1t_l3 x) w :=
  pc_end h
theorem zf1t_5_ok (c1 : (Bs × Int × Unit) → (Addr × Addr × Int × Unit) → World → Prop) (R : (zT1 × Int × Unit) → World → Prop) (x : Bs × Int × Unit) (y : Addr × Addr × Int × Unit) (w : World) (h : zf1t_5 c1 R x.1 x.2.1 y.1 y.2.1 y.2.2.1 w) : WPC P 76 [] (Code.at zf1t_B [.snd, .snd, .snd, .snd, .fst, .snd, .blk, .blk]) (zf1t_q3 c1 R) (mkE2 76 zf1t_l5 zf1t_l6 x y) w :=
  pc_end h
theorem zf1t_4_ok (R : (zT1 × Int × Unit) → World → Prop) (x : Bs × Int × Unit) (y : Addr × Addr × Int × Unit) (w : World) (h : zf1t_4 R x.1 x.2.1 y.1 y.2.1 y.2.2.1 w) : WPC P 76 [] (Code.at zf1t_B [.snd, .snd, .snd, .snd, .fst, .snd]) (zf1t_q2 R) (mkE2 76 zf1t_l5 zf1t_l6 x y) w :=
  pc_loopE (l := zf1t_l5) (l' := zf1t_l6) (id := 0) (b := (Code.at zf1t_B [.snd, .snd, .snd, .snd, .fst, .snd, .blk, .blk])) (fun c1 s => zf1t_5_ok c1 R s y) h
theorem zf1t_3_ok (R : (zT1 × Int × Unit) → World → Prop) (x : Bs × Addr × Sl × Addr × Unit) (w : World) (h : zf1t_3 R x.1 x.2.1 x.2.2.1 x.2.2.2.1 w) : WPC P 76 [] (Code.at zf1t_B [.snd, .snd, .snd, .snd, .fst]) (zf1t_q2 R) (mkE 76 zf1t_l4 x) w :=
  pc_cut2 (l := zf1t_l5) (l' := zf1t_l6) 1 (zf1t_4_ok R) h
theorem zf1t_1_ok (R : (zT1 × Int × Unit) → World → Prop) (x : Bs × Addr × Sl × Addr × Unit) (w : World) (h : zf1t_1 R x.1 x.2.1 x.2.2.1 x.2.2.2.1 w) : WPC P 76 [] (Code.at zf1t_B [.snd, .snd, .snd, .snd]) (zf1t_q1 R) (mkE 76 zf1t_l2 x) w :=
  pc_seq (l := zf1t_l3) (a := (Code.at zf1t_B [.snd, .snd, .snd, .snd, .fst])) (b := (Code.at zf1t_B [.snd, .snd, .snd, .snd, .snd])) (pc_cut (l := zf1t_l4) (c := (Code.at zf1t_B [.snd, .snd, .snd, .snd, .fst])) 0 (zf1t_3_ok R) h) (zf1t_2_ok R)
theorem zf1t_0_ok (R : (zT1 × Int × Unit) → World → Prop) (x : Bs × Unit) (w : World) (h : zf1t_0 R x.1 w) : WPC P 76 [] (Code.at zf1t_B []) (zf1t_q1 R) (mkE 76 zf1t_l1 x) w :=
  pc_cut (l := zf1t_l2) 4 (zf1t_1_ok R) h
theorem zf1t_call (R : (zT1 × Int × Unit) → World → Prop) (s_0 : Bs) (w : World) (h : zf1t_0 R s_0 w) : mcall P n_zf1t [(.string ⟨s_0.toArray⟩)] (.tup [zk1, I]) R w :=
  pc_top (l := zf1t_l1) (c := zf1t_B) Tryz.func68 (zf1t_0_ok R) h
noncomputable abbrev zf1u_B : Code := (Tryz.f69.body).getD .skip
abbrev zf1u_q1 (R : Int → World → Prop) := (topQ P [.tmp 2] I R)
abbrev zf1u_l1 : Slots := [(0, zk1)]
def zf1u_0 (R : Int → World → Prop) (b_0 : zT1) : World → Prop :=
 bx P ztj zk1 b_0 fun a1 =>
 ld P zt6 (ad a1 4) .sl fun (x2 : Sl) =>
 R (mx 1 (x2.len : Int))
theorem zf1u_0_ok (R : Int → World → Prop) (x : zT1 × Unit) (w : World) (h : zf1u_0 R x.1 w) : WPC P 7 [] (Code.at zf1u_B []) (zf1u_q1 R) (mkE 7 zf1u_l1 x) w :=
  pc_end h
theorem zf1u_call (R : Int → World → Prop) (b_0 : zT1) (w : World) (h : zf1u_0 R b_0 w) : mcall P n_zf1u [(KV zk1 b_0)] I R w :=
  pc_top (l := zf1u_l1) (c := zf1u_B) Tryz.func69 (zf1u_0_ok R) h
end Go.Proofs.YtpjhflboedicpaaGreatDoor
