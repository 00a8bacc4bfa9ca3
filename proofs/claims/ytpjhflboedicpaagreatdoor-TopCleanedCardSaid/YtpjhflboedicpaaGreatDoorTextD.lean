/- Short texts of functions of the program, each with the proof that a call comes to it. No condition. -/
import Derived.Test.YtpjhflboedicpaaGreatDoorNames
set_option linter.unusedVariables false
set_option linter.unusedSimpArgs false
namespace Go.Proofs.YtpjhflboedicpaaGreatDoor
open Go Go.W
set_option maxRecDepth 100000
noncomputable abbrev zfo_B : Code := (Tryz.f27.body).getD .skip
abbrev zfo_q1 (R : (Sl × Int × Int × Unit) → World → Prop) := (topQ P [.tmp 8, .tmp 9, .tmp 10] (.tup [.sl, I, I]) R)
abbrev zfo_l1 : Slots := [(0, .p), (1, I), (2, I), (3, .b)]
abbrev zfo_l2 : Slots := [(0, .p), (1, I), (3, .b), (11, .sl), (13, .sl), (14, I)]
abbrev zfo_l3 : Slots := [(13, .sl), (14, I)]
def zfo_2 (R : (Sl × Int × Int × Unit) → World → Prop) (l_13 : Sl) (next_14 : Int) : World → Prop :=
 R (l_13, next_14, 0, ())
abbrev zfo_q2 (R : (Sl × Int × Int × Unit) → World → Prop) := (thenQ (fun env => getE env zfo_l3 fun (x : Sl × Int × Unit) => zfo_2 R x.1 x.2.1) (zfo_q1 R))
abbrev zfo_l4 : Slots := [(0, .p), (1, I), (3, .b), (11, .sl), (13, .sl), (14, I)]
abbrev zfo_l5 : Slots := [(13, .sl), (14, I), (39, I)]
abbrev zfo_l6 : Slots := [(0, .p), (1, I), (3, .b), (37, .sl), (38, I)]
abbrev zfo_q3 (c1 : (Sl × Int × Int × Unit) → (Option Addr × Int × Bool × Sl × Int × Unit) → World → Prop) (R : (Sl × Int × Int × Unit) → World → Prop) := (thenQ (fun env => getE env zfo_l5 fun (s : Sl × Int × Int × Unit) => getE env zfo_l6 (c1 s)) (blockQ 0 ((zfo_q2 R) .normal) (zfo_q2 R)))
abbrev zfo_l7 : Slots := [(0, .p), (1, I), (3, .b), (13, .sl), (14, I), (37, .sl), (38, I), (39, I)]
abbrev zfo_l8 : Slots := [(0, .p), (1, I), (3, .b), (13, .sl), (14, I), (37, .sl), (38, I), (39, I)]
def zfo_7 (c1 : (Sl × Int × Int × Unit) → (Option Addr × Int × Bool × Sl × Int × Unit) → World → Prop) (R : (Sl × Int × Int × Unit) → World → Prop) (p_0 : Option Addr) (off_1 : Int) (committed_3 : Bool) (l_13 : Sl) (next_14 : Int) (v37 : Sl) (v38 : Int) (v39 : Int) : World → Prop :=
 c1 (l_13, next_14, w64 (v39 + 1), ()) (p_0, off_1, committed_3, v37, v38, ())
abbrev zfo_q4 (c1 : (Sl × Int × Int × Unit) → (Option Addr × Int × Bool × Sl × Int × Unit) → World → Prop) (R : (Sl × Int × Int × Unit) → World → Prop) := (thenQ (fun env => getE env zfo_l8 fun (x : Option Addr × Int × Bool × Sl × Int × Sl × Int × Int × Unit) => zfo_7 c1 R x.1 x.2.1 x.2.2.1 x.2.2.2.1 x.2.2.2.2.1 x.2.2.2.2.2.1 x.2.2.2.2.2.2.1 x.2.2.2.2.2.2.2.1) (zfo_q3 c1 R))
abbrev zfo_q5 (c1 : (Sl × Int × Int × Unit) → (Option Addr × Int × Bool × Sl × Int × Unit) → World → Prop) (R : (Sl × Int × Int × Unit) → World → Prop) := (blockQ 1 ((zfo_q4 c1 R) .normal) (zfo_q4 c1 R))
abbrev zfo_l9 : Slots := [(0, .p), (1, I), (3, .b), (13, .sl), (14, I), (37, .sl), (38, I), (39, I)]
abbrev zfo_l10 : Slots := [(0, .p), (1, I), (3, .b), (13, .sl), (16, .ad), (37, .sl), (38, I), (39, I)]
abbrev zfo_l11 : Slots := [(0, .p), (1, I), (3, .b), (13, .sl), (14, I), (16, .ad), (17, .ad), (37, .sl), (38, I), (39, I)]
abbrev zfo_l12 : Slots := [(13, .sl), (79, I)]
abbrev zfo_l13 : Slots := [(0, .p), (1, I), (3, .b), (14, I), (16, .ad), (37, .sl), (38, I), (39, I), (77, .sl), (78, I)]
abbrev zfo_q6 (c2 : (Sl × Int × Unit) → (Option Addr × Int × Bool × Int × Addr × Sl × Int × Int × Sl × Int × Unit) → World → Prop) (c1 : (Sl × Int × Int × Unit) → (Option Addr × Int × Bool × Sl × Int × Unit) → World → Prop) (R : (Sl × Int × Int × Unit) → World → Prop) := (thenQ (fun env => getE env zfo_l12 fun (s : Sl × Int × Unit) => getE env zfo_l13 (c2 s)) (blockQ 2 ((zfo_q5 c1 R) .normal) (zfo_q5 c1 R)))
abbrev zfo_l14 : Slots := [(0, .p), (1, I), (3, .b), (13, .sl), (14, I), (16, .ad), (37, .sl), (38, I), (39, I), (77, .sl), (78, I), (79, I)]
def zfo_13 (c2 : (Sl × Int × Unit) → (Option Addr × Int × Bool × Int × Addr × Sl × Int × Int × Sl × Int × Unit) → World → Prop) (c1 : (Sl × Int × Int × Unit) → (Option Addr × Int × Bool × Sl × Int × Unit) → World → Prop) (R : (Sl × Int × Int × Unit) → World → Prop) (p_0 : Option Addr) (off_1 : Int) (committed_3 : Bool) (l_13 : Sl) (next_14 : Int) (x_16 : Addr) (v37 : Sl) (v38 : Int) (v39 : Int) (v77 : Sl) (v78 : Int) (v79 : Int) : World → Prop :=
 c2 (l_13, w64 (v79 + 1), ()) (p_0, off_1, committed_3, next_14, x_16, v37, v38, v39, v77, v78, ())
def zfo_12 (c2 : (Sl × Int × Unit) → (Option Addr × Int × Bool × Int × Addr × Sl × Int × Int × Sl × Int × Unit) → World → Prop) (c1 : (Sl × Int × Int × Unit) → (Option Addr × Int × Bool × Sl × Int × Unit) → World → Prop) (R : (Sl × Int × Int × Unit) → World → Prop) (l_13 : Sl) (v79 : Int) (p_0 : Option Addr) (off_1 : Int) (committed_3 : Bool) (next_14 : Int) (x_16 : Addr) (v37 : Sl) (v38 : Int) (v39 : Int) (v77 : Sl) (v78 : Int) : World → Prop :=
 mif (decide (v79 < v78))
 (ixa P zt6 (Sl.v v77) v79 fun x20 =>
 ld P ztc x20 zk2 fun (x21 : zT2) =>
 alo P ztc fun a22 =>
 sto P ztc a22 zk2 x21 <|
 ld P zt1 x_16 I fun (x23 : Int) =>
 mif (decide ((w64 (x23 + v79)) ≥ off_1))
 (ld P zt1 x_16 I fun (x24 : Int) =>
 ld P ztc a22 zk2 fun (x25 : zT2) =>
 bsl P zta zk3 [(w64 (x24 + v79), x25, ())] fun x26 =>
 app P #[zta, zta] zta (Sl.v l_13) (Sl.v x26) fun x27 =>
 zfo_13 c2 c1 R p_0 off_1 committed_3 x27 next_14 x_16 v37 v38 v39 v77 v78 v79)
 (zfo_13 c2 c1 R p_0 off_1 committed_3 l_13 next_14 x_16 v37 v38 v39 v77 v78 v79))
 (zfo_7 c1 R p_0 off_1 committed_3 l_13 next_14 v37 v38 v39)
def zfo_11 (c1 : (Sl × Int × Int × Unit) → (Option Addr × Int × Bool × Sl × Int × Unit) → World → Prop) (R : (Sl × Int × Int × Unit) → World → Prop) (l_13 : Sl) (v79 : Int) (p_0 : Option Addr) (off_1 : Int) (committed_3 : Bool) (next_14 : Int) (x_16 : Addr) (v37 : Sl) (v38 : Int) (v39 : Int) (v77 : Sl) (v78 : Int) : World → Prop :=
 W.Loop (p_0, off_1, committed_3, next_14, x_16, v37, v38, v39, v77, v78, ()) (fun (c2 : (Sl × Int × Unit) → (Option Addr × Int × Bool × Int × Addr × Sl × Int × Int × Sl × Int × Unit) → World → Prop) (s : Sl × Int × Unit) => zfo_12 c2 c1 R s.1 s.2.1 p_0 off_1 committed_3 next_14 x_16 v37 v38 v39 v77 v78) (l_13, v79, ())
def zfo_10 (c1 : (Sl × Int × Int × Unit) → (Option Addr × Int × Bool × Sl × Int × Unit) → World → Prop) (R : (Sl × Int × Int × Unit) → World → Prop) (p_0 : Option Addr) (off_1 : Int) (committed_3 : Bool) (l_13 : Sl) (next_14 : Int) (x_16 : Addr) (b_17 : Addr) (v37 : Sl) (v38 : Int) (v39 : Int) : World → Prop :=
 ld P zt6 (ad b_17 4) .sl fun (x19 : Sl) =>
 zfo_11 c1 R l_13 0 p_0 off_1 committed_3 next_14 x_16 v37 v38 v39 x19 (x19.len : Int)
def zfo_9 (c1 : (Sl × Int × Int × Unit) → (Option Addr × Int × Bool × Sl × Int × Unit) → World → Prop) (R : (Sl × Int × Int × Unit) → World → Prop) (p_0 : Option Addr) (off_1 : Int) (committed_3 : Bool) (l_13 : Sl) (x_16 : Addr) (v37 : Sl) (v38 : Int) (v39 : Int) : World → Prop :=
 ld P zt1 x_16 I fun (x10 : Int) =>
 ld P zt1 (ad x_16 1) I fun (x11 : Int) =>
 ld P zt4 (ad x_16 2) .s fun (x12 : Bs) =>
 mcall P n_zf1t [(.string ⟨x12.toArray⟩)] (.tup [zk1, I]) fun (x13 : zT1 × Int × Unit) =>
 alo P ztj fun a14 =>
 sto P ztj a14 zk1 x13.1 <|
 mif committed_3
 (ld P zt1 a14 I fun (x15 : Int) =>
 mif (x15 == 2)
 (ld P zt1 (ad a14 1) I fun (x16 : Int) =>
 ld P zt1 x_16 I fun (x17 : Int) =>
 mcall P n_zf21 [(.pointer p_0), (.int .i64 x16), (.int .i64 x17)] .b fun (x18 : Bool) =>
 mif x18
 (zfo_7 c1 R p_0 off_1 committed_3 l_13 (w64 (x10 + x11)) v37 v38 v39)
 (zfo_10 c1 R p_0 off_1 committed_3 l_13 (w64 (x10 + x11)) x_16 a14 v37 v38 v39))
 (zfo_10 c1 R p_0 off_1 committed_3 l_13 (w64 (x10 + x11)) x_16 a14 v37 v38 v39))
 (zfo_10 c1 R p_0 off_1 committed_3 l_13 (w64 (x10 + x11)) x_16 a14 v37 v38 v39)
def zfo_8 (c1 : (Sl × Int × Int × Unit) → (Option Addr × Int × Bool × Sl × Int × Unit) → World → Prop) (R : (Sl × Int × Int × Unit) → World → Prop) (p_0 : Option Addr) (off_1 : Int) (committed_3 : Bool) (l_13 : Sl) (next_14 : Int) (v37 : Sl) (v38 : Int) (v39 : Int) : World → Prop :=
 ixa P ztx (Sl.v v37) v39 fun x5 =>
 ld P zty x5 zk2 fun (x6 : zT2) =>
 alo P zty fun a7 =>
 sto P zty a7 zk2 x6 <|
 mdraw <|
 mif committed_3
 (ld P zt1 a7 I fun (x8 : Int) =>
 mcall P n_zf20 [(.pointer p_0)] I fun (x9 : Int) =>
 mst P (Instr.loadAt zt1 (.pointer (some a7))) (.int .i64 x8) <|
 mif (decide (x8 ≥ x9))
 (zfo_2 R l_13 next_14)
 (zfo_9 c1 R p_0 off_1 committed_3 l_13 a7 v37 v38 v39))
 (zfo_9 c1 R p_0 off_1 committed_3 l_13 a7 v37 v38 v39)
def zfo_6 (c1 : (Sl × Int × Int × Unit) → (Option Addr × Int × Bool × Sl × Int × Unit) → World → Prop) (R : (Sl × Int × Int × Unit) → World → Prop) (p_0 : Option Addr) (off_1 : Int) (committed_3 : Bool) (l_13 : Sl) (next_14 : Int) (v37 : Sl) (v38 : Int) (v39 : Int) : World → Prop :=
 zfo_8 c1 R p_0 off_1 committed_3 l_13 next_14 v37 v38 v39
def zfo_5 (c1 : (Sl × Int × Int × Unit) → (Option Addr × Int × Bool × Sl × Int × Unit) → World → Prop) (R : (Sl × Int × Int × Unit) → World → Prop) (l_13 : Sl) (next_14 : Int) (v39 : Int) (p_0 : Option Addr) (off_1 : Int) (committed_3 : Bool) (v37 : Sl) (v38 : Int) : World → Prop :=
 mif (decide (v39 < v38))
 (zfo_6 c1 R p_0 off_1 committed_3 l_13 next_14 v37 v38 v39)
 (zfo_2 R l_13 next_14)
def zfo_4 (R : (Sl × Int × Int × Unit) → World → Prop) (l_13 : Sl) (next_14 : Int) (v39 : Int) (p_0 : Option Addr) (off_1 : Int) (committed_3 : Bool) (v37 : Sl) (v38 : Int) : World → Prop :=
 W.Loop (p_0, off_1, committed_3, v37, v38, ()) (fun (c1 : (Sl × Int × Int × Unit) → (Option Addr × Int × Bool × Sl × Int × Unit) → World → Prop) (s : Sl × Int × Int × Unit) => zfo_5 c1 R s.1 s.2.1 s.2.2.1 p_0 off_1 committed_3 v37 v38) (l_13, next_14, v39, ())
def zfo_3 (R : (Sl × Int × Int × Unit) → World → Prop) (p_0 : Option Addr) (off_1 : Int) (committed_3 : Bool) (entries_11 : Sl) (l_13 : Sl) (next_14 : Int) : World → Prop :=
 zfo_4 R l_13 next_14 0 p_0 off_1 committed_3 entries_11 (entries_11.len : Int)
def zfo_1 (R : (Sl × Int × Int × Unit) → World → Prop) (p_0 : Option Addr) (off_1 : Int) (committed_3 : Bool) (entries_11 : Sl) (l_13 : Sl) (next_14 : Int) : World → Prop :=
 zfo_3 R p_0 off_1 committed_3 entries_11 l_13 next_14
def zfo_0 (R : (Sl × Int × Int × Unit) → World → Prop) (p_0 : Option Addr) (off_1 : Int) (most_2 : Int) (committed_3 : Bool) : World → Prop :=
 mcall P n_zf1w [(.pointer p_0)] .b fun (x1 : Bool) =>
 mif x1
 (R (⟨none, 0, 0⟩, 0, 1, ()))
 (mnil p_0 fun a2 =>
 ld P zts a2 .p fun (x3 : Option Addr) =>
 mcall P n_zf1s [(.pointer x3), (.int .i64 off_1), (.int .i64 most_2)] (.tup [.sl, I]) fun (x4 : Sl × Int × Unit) =>
 mif (x4.2.1 != 0)
 (R (⟨none, 0, 0⟩, 0, x4.2.1, ()))
 (zfo_1 R p_0 off_1 committed_3 x4.1 ⟨none, 0, 0⟩ off_1))
theorem zfo_2_ok (R : (Sl × Int × Int × Unit) → World → Prop) (x : Sl × Int × Unit) (w : World) (h : zfo_2 R x.1 x.2.1 w) : WPC P 103 [] (Code.at zfo_B [.snd, .snd, .snd, .snd, .snd, .snd, .snd]) (zfo_q1 R) (mkE 103 zfo_l3 x) w :=
  pc_end h
theorem zfo_7_ok (c1 : (Sl × Int × Int × Unit) → (Option Addr × Int × Bool × Sl × Int × Unit) → World → Prop) (R : (Sl × Int × Int × Unit) → World → Prop) (x : Option Addr × Int × Bool × Sl × Int × Sl × Int × Int × Unit) (w : World) (h : zfo_7 c1 R x.1 x.2.1 x.2.2.1 x.2.2.2.1 x.2.2.2.2.1 x.2.2.2.2.2.1 x.2.2.2.2.2.2.1 x.2.2.2.2.2.2.2.1 w) : WPC P 103 [] (Code.at zfo_B [.snd, .snd, .snd, .snd, .snd, .snd, .fst, .snd, .blk, .blk, .snd, .snd, .snd]) (zfo_q3 c1 R) (mkE 103 zfo_l8 x) w :=
  pc_end h
theorem zfo_13_ok (c2 : (Sl × Int × Unit) → (Option Addr × Int × Bool × Int × Addr × Sl × Int × Int × Sl × Int × Unit) → World → Prop) (c1 : (Sl × Int × Int × Unit) → (Option Addr × Int × Bool × Sl × Int × Unit) → World → Prop) (R : (Sl × Int × Int × Unit) → World → Prop) (x : Option Addr × Int × Bool × Sl × Int × Addr × Sl × Int × Int × Sl × Int × Int × Unit) (w : World) (h : zfo_13 c2 c1 R x.1 x.2.1 x.2.2.1 x.2.2.2.1 x.2.2.2.2.1 x.2.2.2.2.2.1 x.2.2.2.2.2.2.1 x.2.2.2.2.2.2.2.1 x.2.2.2.2.2.2.2.2.1 x.2.2.2.2.2.2.2.2.2.1 x.2.2.2.2.2.2.2.2.2.2.1 x.2.2.2.2.2.2.2.2.2.2.2.1 w) : WPC P 103 [] (Code.at zfo_B [.snd, .snd, .snd, .snd, .snd, .snd, .fst, .snd, .blk, .blk, .snd, .snd, .fst, .blk, .snd, .snd, .snd, .snd, .snd, .snd, .blk, .blk, .snd, .snd, .snd]) (zfo_q6 c2 c1 R) (mkE 103 zfo_l14 x) w :=
  pc_end h
theorem zfo_12_ok (c2 : (Sl × Int × Unit) → (Option Addr × Int × Bool × Int × Addr × Sl × Int × Int × Sl × Int × Unit) → World → Prop) (c1 : (Sl × Int × Int × Unit) → (Option Addr × Int × Bool × Sl × Int × Unit) → World → Prop) (R : (Sl × Int × Int × Unit) → World → Prop) (x : Sl × Int × Unit) (y : Option Addr × Int × Bool × Int × Addr × Sl × Int × Int × Sl × Int × Unit) (w : World) (h : zfo_12 c2 c1 R x.1 x.2.1 y.1 y.2.1 y.2.2.1 y.2.2.2.1 y.2.2.2.2.1 y.2.2.2.2.2.1 y.2.2.2.2.2.2.1 y.2.2.2.2.2.2.2.1 y.2.2.2.2.2.2.2.2.1 y.2.2.2.2.2.2.2.2.2.1 w) : WPC P 103 [] (Code.at zfo_B [.snd, .snd, .snd, .snd, .snd, .snd, .fst, .snd, .blk, .blk, .snd, .snd, .fst, .blk, .snd, .snd, .snd, .snd, .snd, .snd, .blk, .blk]) (zfo_q6 c2 c1 R) (mkE2 103 zfo_l12 zfo_l13 x y) w :=
  pc_cut (l := zfo_l14) 3 (zfo_13_ok c2 c1 R) h
theorem zfo_11_ok (c1 : (Sl × Int × Int × Unit) → (Option Addr × Int × Bool × Sl × Int × Unit) → World → Prop) (R : (Sl × Int × Int × Unit) → World → Prop) (x : Sl × Int × Unit) (y : Option Addr × Int × Bool × Int × Addr × Sl × Int × Int × Sl × Int × Unit) (w : World) (h : zfo_11 c1 R x.1 x.2.1 y.1 y.2.1 y.2.2.1 y.2.2.2.1 y.2.2.2.2.1 y.2.2.2.2.2.1 y.2.2.2.2.2.2.1 y.2.2.2.2.2.2.2.1 y.2.2.2.2.2.2.2.2.1 y.2.2.2.2.2.2.2.2.2.1 w) : WPC P 103 [] (Code.at zfo_B [.snd, .snd, .snd, .snd, .snd, .snd, .fst, .snd, .blk, .blk, .snd, .snd, .fst, .blk, .snd, .snd, .snd, .snd, .snd, .snd]) (zfo_q5 c1 R) (mkE2 103 zfo_l12 zfo_l13 x y) w :=
  pc_loopE (l := zfo_l12) (l' := zfo_l13) (id := 2) (b := (Code.at zfo_B [.snd, .snd, .snd, .snd, .snd, .snd, .fst, .snd, .blk, .blk, .snd, .snd, .fst, .blk, .snd, .snd, .snd, .snd, .snd, .snd, .blk, .blk])) (fun c2 s => zfo_12_ok c2 c1 R s y) h
theorem zfo_10_ok (c1 : (Sl × Int × Int × Unit) → (Option Addr × Int × Bool × Sl × Int × Unit) → World → Prop) (R : (Sl × Int × Int × Unit) → World → Prop) (x : Option Addr × Int × Bool × Sl × Int × Addr × Addr × Sl × Int × Int × Unit) (w : World) (h : zfo_10 c1 R x.1 x.2.1 x.2.2.1 x.2.2.2.1 x.2.2.2.2.1 x.2.2.2.2.2.1 x.2.2.2.2.2.2.1 x.2.2.2.2.2.2.2.1 x.2.2.2.2.2.2.2.2.1 x.2.2.2.2.2.2.2.2.2.1 w) : WPC P 103 [] (Code.at zfo_B [.snd, .snd, .snd, .snd, .snd, .snd, .fst, .snd, .blk, .blk, .snd, .snd, .fst, .blk, .snd, .snd, .snd, .snd, .snd]) (zfo_q5 c1 R) (mkE 103 zfo_l11 x) w :=
  pc_cut2 (l := zfo_l12) (l' := zfo_l13) 1 (zfo_11_ok c1 R) h
theorem zfo_9_ok (c1 : (Sl × Int × Int × Unit) → (Option Addr × Int × Bool × Sl × Int × Unit) → World → Prop) (R : (Sl × Int × Int × Unit) → World → Prop) (x : Option Addr × Int × Bool × Sl × Addr × Sl × Int × Int × Unit) (w : World) (h : zfo_9 c1 R x.1 x.2.1 x.2.2.1 x.2.2.2.1 x.2.2.2.2.1 x.2.2.2.2.2.1 x.2.2.2.2.2.2.1 x.2.2.2.2.2.2.2.1 w) : WPC P 103 [] (Code.at zfo_B [.snd, .snd, .snd, .snd, .snd, .snd, .fst, .snd, .blk, .blk, .snd, .snd, .fst, .blk, .snd, .snd]) (zfo_q5 c1 R) (mkE 103 zfo_l10 x) w :=
  pc_cut (l := zfo_l11) 3 (zfo_10_ok c1 R) h
theorem zfo_8_ok (c1 : (Sl × Int × Int × Unit) → (Option Addr × Int × Bool × Sl × Int × Unit) → World → Prop) (R : (Sl × Int × Int × Unit) → World → Prop) (x : Option Addr × Int × Bool × Sl × Int × Sl × Int × Int × Unit) (w : World) (h : zfo_8 c1 R x.1 x.2.1 x.2.2.1 x.2.2.2.1 x.2.2.2.2.1 x.2.2.2.2.2.1 x.2.2.2.2.2.2.1 x.2.2.2.2.2.2.2.1 w) : WPC P 103 [] (Code.at zfo_B [.snd, .snd, .snd, .snd, .snd, .snd, .fst, .snd, .blk, .blk, .snd, .snd, .fst, .blk]) (zfo_q5 c1 R) (mkE 103 zfo_l9 x) w :=
  pc_cut (l := zfo_l10) 2 (zfo_9_ok c1 R) h
theorem zfo_6_ok (c1 : (Sl × Int × Int × Unit) → (Option Addr × Int × Bool × Sl × Int × Unit) → World → Prop) (R : (Sl × Int × Int × Unit) → World → Prop) (x : Option Addr × Int × Bool × Sl × Int × Sl × Int × Int × Unit) (w : World) (h : zfo_6 c1 R x.1 x.2.1 x.2.2.1 x.2.2.2.1 x.2.2.2.2.1 x.2.2.2.2.2.1 x.2.2.2.2.2.2.1 x.2.2.2.2.2.2.2.1 w) : WPC P 103 [] (Code.at zfo_B [.snd, .snd, .snd, .snd, .snd, .snd, .fst, .snd, .blk, .blk, .snd, .snd]) (zfo_q3 c1 R) (mkE 103 zfo_l7 x) w :=
  pc_seq (l := zfo_l8) (a := (Code.at zfo_B [.snd, .snd, .snd, .snd, .snd, .snd, .fst, .snd, .blk, .blk, .snd, .snd, .fst])) (b := (Code.at zfo_B [.snd, .snd, .snd, .snd, .snd, .snd, .fst, .snd, .blk, .blk, .snd, .snd, .snd])) (pc_block (c := (Code.at zfo_B [.snd, .snd, .snd, .snd, .snd, .snd, .fst, .snd, .blk, .blk, .snd, .snd, .fst, .blk])) (id := 1) (pc_cut (l := zfo_l9) (c := (Code.at zfo_B [.snd, .snd, .snd, .snd, .snd, .snd, .fst, .snd, .blk, .blk, .snd, .snd, .fst, .blk])) 0 (zfo_8_ok c1 R) h)) (zfo_7_ok c1 R)
theorem zfo_5_ok (c1 : (Sl × Int × Int × Unit) → (Option Addr × Int × Bool × Sl × Int × Unit) → World → Prop) (R : (Sl × Int × Int × Unit) → World → Prop) (x : Sl × Int × Int × Unit) (y : Option Addr × Int × Bool × Sl × Int × Unit) (w : World) (h : zfo_5 c1 R x.1 x.2.1 x.2.2.1 y.1 y.2.1 y.2.2.1 y.2.2.2.1 y.2.2.2.2.1 w) : WPC P 103 [] (Code.at zfo_B [.snd, .snd, .snd, .snd, .snd, .snd, .fst, .snd, .blk, .blk]) (zfo_q3 c1 R) (mkE2 103 zfo_l5 zfo_l6 x y) w :=
  pc_cut (l := zfo_l7) 2 (zfo_6_ok c1 R) h
theorem zfo_4_ok (R : (Sl × Int × Int × Unit) → World → Prop) (x : Sl × Int × Int × Unit) (y : Option Addr × Int × Bool × Sl × Int × Unit) (w : World) (h : zfo_4 R x.1 x.2.1 x.2.2.1 y.1 y.2.1 y.2.2.1 y.2.2.2.1 y.2.2.2.2.1 w) : WPC P 103 [] (Code.at zfo_B [.snd, .snd, .snd, .snd, .snd, .snd, .fst, .snd]) (zfo_q2 R) (mkE2 103 zfo_l5 zfo_l6 x y) w :=
  pc_loopE (l := zfo_l5) (l' := zfo_l6) (id := 0) (b := (Code.at zfo_B [.snd, .snd, .snd, .snd, .snd, .snd, .fst, .snd, .blk, .blk])) (fun c1 s => zfo_5_ok c1 R s y) h
theorem zfo_3_ok (R : (Sl × Int × Int × Unit) → World → Prop) (x : Option Addr × Int × Bool × Sl × Sl × Int × Unit) (w : World) (h : zfo_3 R x.1 x.2.1 x.2.2.1 x.2.2.2.1 x.2.2.2.2.1 x.2.2.2.2.2.1 w) : WPC P 103 [] (Code.at zfo_B [.snd, .snd, .snd, .snd, .snd, .snd, .fst]) (zfo_q2 R) (mkE 103 zfo_l4 x) w :=
  pc_cut2 (l := zfo_l5) (l' := zfo_l6) 1 (zfo_4_ok R) h
theorem zfo_1_ok (R : (Sl × Int × Int × Unit) → World → Prop) (x : Option Addr × Int × Bool × Sl × Sl × Int × Unit) (w : World) (h : zfo_1 R x.1 x.2.1 x.2.2.1 x.2.2.2.1 x.2.2.2.2.1 x.2.2.2.2.2.1 w) : WPC P 103 [] (Code.at zfo_B [.snd, .snd, .snd, .snd, .snd, .snd]) (zfo_q1 R) (mkE 103 zfo_l2 x) w :=
  pc_seq (l := zfo_l3) (a := (Code.at zfo_B [.snd, .snd, .snd, .snd, .snd, .snd, .fst])) (b := (Code.at zfo_B [.snd, .snd, .snd, .snd, .snd, .snd, .snd])) (pc_cut (l := zfo_l4) (c := (Code.at zfo_B [.snd, .snd, .snd, .snd, .snd, .snd, .fst])) 0 (zfo_3_ok R) h) (zfo_2_ok R)
theorem zfo_0_ok (R : (Sl × Int × Int × Unit) → World → Prop) (x : Option Addr × Int × Int × Bool × Unit) (w : World) (h : zfo_0 R x.1 x.2.1 x.2.2.1 x.2.2.2.1 w) : WPC P 103 [] (Code.at zfo_B []) (zfo_q1 R) (mkE 103 zfo_l1 x) w :=
  pc_cut (l := zfo_l2) 6 (zfo_1_ok R) h
theorem zfo_call (R : (Sl × Int × Int × Unit) → World → Prop) (p_0 : Option Addr) (off_1 : Int) (most_2 : Int) (committed_3 : Bool) (w : World) (h : zfo_0 R p_0 off_1 most_2 committed_3 w) : mcall P n_zfo [(.pointer p_0), (.int .i64 off_1), (.int .i64 most_2), (.bool committed_3)] (.tup [.sl, I, I]) R w :=
  pc_top (l := zfo_l1) (c := zfo_B) Tryz.func27 (zfo_0_ok R) h
noncomputable abbrev zfp_B : Code := (Tryz.f28.body).getD .skip
abbrev zfp_q1 (R : Int → World → Prop) := (topQ P [.tmp 4] I R)
abbrev zfp_l1 : Slots := [(0, zk0), (1, zk1)]
abbrev zfp_l2 : Slots := [(2, .ad), (3, .ad), (5, .b)]
abbrev zfp_l3 : Slots := [(5, .b)]
def zfp_2 (R : Int → World → Prop) (ok_5 : Bool) : World → Prop :=
 mif (!ok_5)
 (R 1)
 (R 0)
abbrev zfp_q2 (R : Int → World → Prop) := (thenQ (fun env => getE env zfp_l3 fun (x : Bool × Unit) => zfp_2 R x.1) (zfp_q1 R))
abbrev zfp_l4 : Slots := [(2, .ad), (3, .ad), (5, .b)]
abbrev zfp_l5 : Slots := [(5, .b), (51, I)]
abbrev zfp_l6 : Slots := [(2, .ad), (3, .ad), (49, .sl), (50, I)]
abbrev zfp_q3 (c1 : (Bool × Int × Unit) → (Addr × Addr × Sl × Int × Unit) → World → Prop) (R : Int → World → Prop) := (thenQ (fun env => getE env zfp_l5 fun (s : Bool × Int × Unit) => getE env zfp_l6 (c1 s)) (blockQ 0 ((zfp_q2 R) .normal) (zfp_q2 R)))
abbrev zfp_l7 : Slots := [(2, .ad), (3, .ad), (5, .b), (49, .sl), (50, I), (51, I)]
def zfp_6 (c1 : (Bool × Int × Unit) → (Addr × Addr × Sl × Int × Unit) → World → Prop) (R : Int → World → Prop) (g_2 : Addr) (s_3 : Addr) (ok_5 : Bool) (v49 : Sl) (v50 : Int) (v51 : Int) : World → Prop :=
 c1 (ok_5, w64 (v51 + 1), ()) (g_2, s_3, v49, v50, ())
def zfp_5 (c1 : (Bool × Int × Unit) → (Addr × Addr × Sl × Int × Unit) → World → Prop) (R : Int → World → Prop) (ok_5 : Bool) (v51 : Int) (g_2 : Addr) (s_3 : Addr) (v49 : Sl) (v50 : Int) : World → Prop :=
 mif (decide (v51 < v50))
 (ixa P zt8 (Sl.v v49) v51 fun x28 =>
 ld P zth x28 zk6 fun (x29 : zT6) =>
 alo P zth fun a30 =>
 sto P zth a30 zk6 x29 <|
 mif (!ok_5)
 (zfp_2 R ok_5)
 (mdraw <|
 ld P zt1 a30 I fun (x31 : Int) =>
 ld P zt1 (ad a30 1) I fun (x32 : Int) =>
 bsl P zt7 I [x31, x32] fun x33 =>
 mcall P n_zfq [(Sl.v x33)] .b fun (x34 : Bool) =>
 mif x34
 (ld P zt1 a30 I fun (x35 : Int) =>
 mif (decide (x35 ≤ 1048576))
 (ld P zt1 (ad a30 1) I fun (x36 : Int) =>
 ld P zt1 (ad g_2 1) I fun (x37 : Int) =>
 mdz x37 <|
 mif ((x36.tmod x37) == 0)
 (ld P zt1 (ad a30 1) I fun (x38 : Int) =>
 ld P zt1 s_3 I fun (x39 : Int) =>
 mif (decide (x38 ≤ x39))
 (ld P zt5 g_2 zk0 fun (x40 : zT0) =>
 ld P zt1 (ad a30 1) I fun (x41 : Int) =>
 ld P zt1 s_3 I fun (x42 : Int) =>
 mcall P n_zfw [(KV zk0 x40), (.int .i64 x41), (.int .i64 x42)] .b fun (x43 : Bool) =>
 mif (!x43)
 (ld P ztg (ad a30 2) zk5 fun (x44 : zT5) =>
 mcall P n_zf23 [(KV zk5 x44)] I fun (x45 : Int) =>
 mif (x45 == 0)
 (mif (v51 == 0)
 (zfp_6 c1 R g_2 s_3 true v49 v50 v51)
 (ld P zt8 (ad s_3 4) .sl fun (x46 : Sl) =>
 ixa P zt8 (Sl.v x46) (w64 (v51 - 1)) fun x47 =>
 ld P zth x47 zk6 fun (x48 : zT6) =>
 ld P zth a30 zk6 fun (x49 : zT6) =>
 mcall P n_zf24 [(KV zk6 x48), (KV zk6 x49)] I fun (x50 : Int) =>
 zfp_6 c1 R g_2 s_3 (decide (x50 < 0)) v49 v50 v51))
 (zfp_6 c1 R g_2 s_3 false v49 v50 v51))
 (zfp_6 c1 R g_2 s_3 false v49 v50 v51))
 (zfp_6 c1 R g_2 s_3 false v49 v50 v51))
 (zfp_6 c1 R g_2 s_3 false v49 v50 v51))
 (zfp_6 c1 R g_2 s_3 false v49 v50 v51))
 (zfp_6 c1 R g_2 s_3 false v49 v50 v51)))
 (zfp_2 R ok_5)
def zfp_4 (R : Int → World → Prop) (ok_5 : Bool) (v51 : Int) (g_2 : Addr) (s_3 : Addr) (v49 : Sl) (v50 : Int) : World → Prop :=
 W.Loop (g_2, s_3, v49, v50, ()) (fun (c1 : (Bool × Int × Unit) → (Addr × Addr × Sl × Int × Unit) → World → Prop) (s : Bool × Int × Unit) => zfp_5 c1 R s.1 s.2.1 g_2 s_3 v49 v50) (ok_5, v51, ())
def zfp_3 (R : Int → World → Prop) (g_2 : Addr) (s_3 : Addr) (ok_5 : Bool) : World → Prop :=
 ld P zt8 (ad s_3 4) .sl fun (x27 : Sl) =>
 zfp_4 R ok_5 0 g_2 s_3 x27 (x27.len : Int)
def zfp_1 (R : Int → World → Prop) (g_2 : Addr) (s_3 : Addr) (ok_5 : Bool) : World → Prop :=
 zfp_3 R g_2 s_3 ok_5
def zfp_0 (R : Int → World → Prop) (g_0 : zT0) (s_1 : zT1) : World → Prop :=
 bx P zt5 zk0 g_0 fun a1 =>
 bx P zt9 zk1 s_1 fun a2 =>
 ld P zt5 a1 zk0 fun (x3 : zT0) =>
 mcall P n_zf22 [(KV zk0 x3)] I fun (x4 : Int) =>
 mif (x4 == 0)
 (ld P zt1 a2 I fun (x5 : Int) =>
 mif (x5 == (-1))
 (ld P zt1 (ad a2 1) I fun (x6 : Int) =>
 ld P zt1 (ad a2 2) I fun (x7 : Int) =>
 ld P zt1 (ad a2 3) I fun (x8 : Int) =>
 bsl P zt7 I [x6, x7, x8] fun x9 =>
 mcall P n_zfq [(Sl.v x9)] .b fun (x10 : Bool) =>
 mif x10
 (ld P zt1 (ad a2 1) I fun (x11 : Int) =>
 ld P zt1 (ad a2 3) I fun (x12 : Int) =>
 ld P zt1 (ad a2 2) I fun (x13 : Int) =>
 mif (decide (x11 ≤ (w64 (x12 - x13))))
 (ld P zt8 (ad a2 4) .sl fun (x14 : Sl) =>
 zfp_1 R a1 a2 (decide ((x14.len : Int) ≤ 64)))
 (zfp_1 R a1 a2 false))
 (zfp_1 R a1 a2 false))
 (ld P zt1 a2 I fun (x15 : Int) =>
 bsl P zt7 I [x15] fun x16 =>
 mcall P n_zfq [(Sl.v x16)] .b fun (x17 : Bool) =>
 mif x17
 (ld P zt1 (ad a2 1) I fun (x18 : Int) =>
 ld P zt1 (ad a2 2) I fun (x19 : Int) =>
 ld P zt1 (ad a2 3) I fun (x20 : Int) =>
 bsl P zt7 I [x18, x19, x20] fun x21 =>
 mcall P n_zfq [(Sl.v x21)] .b fun (x22 : Bool) =>
 mif x22
 (ld P zt1 (ad a2 1) I fun (x23 : Int) =>
 ld P zt1 (ad a2 3) I fun (x24 : Int) =>
 ld P zt1 (ad a2 2) I fun (x25 : Int) =>
 mif (decide (x23 ≤ (w64 (x24 - x25))))
 (ld P zt8 (ad a2 4) .sl fun (x26 : Sl) =>
 zfp_1 R a1 a2 (decide ((x26.len : Int) ≤ 64)))
 (zfp_1 R a1 a2 false))
 (zfp_1 R a1 a2 false))
 (zfp_1 R a1 a2 false)))
 (zfp_1 R a1 a2 false)
theorem zfp_2_ok (R : Int → World → Prop) (x : Bool × Unit) (w : World) (h : zfp_2 R x.1 w) : WPC P 117 [] (Code.at zfp_B [.snd, .snd, .snd]) (zfp_q1 R) (mkE 117 zfp_l3 x) w :=
  pc_end h
theorem zfp_6_ok (c1 : (Bool × Int × Unit) → (Addr × Addr × Sl × Int × Unit) → World → Prop) (R : Int → World → Prop) (x : Addr × Addr × Bool × Sl × Int × Int × Unit) (w : World) (h : zfp_6 c1 R x.1 x.2.1 x.2.2.1 x.2.2.2.1 x.2.2.2.2.1 x.2.2.2.2.2.1 w) : WPC P 117 [] (Code.at zfp_B [.snd, .snd, .fst, .snd, .blk, .blk, .snd, .snd, .snd]) (zfp_q3 c1 R) (mkE 117 zfp_l7 x) w :=
  pc_end h
theorem zfp_5_ok (c1 : (Bool × Int × Unit) → (Addr × Addr × Sl × Int × Unit) → World → Prop) (R : Int → World → Prop) (x : Bool × Int × Unit) (y : Addr × Addr × Sl × Int × Unit) (w : World) (h : zfp_5 c1 R x.1 x.2.1 y.1 y.2.1 y.2.2.1 y.2.2.2.1 w) : WPC P 117 [] (Code.at zfp_B [.snd, .snd, .fst, .snd, .blk, .blk]) (zfp_q3 c1 R) (mkE2 117 zfp_l5 zfp_l6 x y) w :=
  pc_cut (l := zfp_l7) 3 (zfp_6_ok c1 R) h
theorem zfp_4_ok (R : Int → World → Prop) (x : Bool × Int × Unit) (y : Addr × Addr × Sl × Int × Unit) (w : World) (h : zfp_4 R x.1 x.2.1 y.1 y.2.1 y.2.2.1 y.2.2.2.1 w) : WPC P 117 [] (Code.at zfp_B [.snd, .snd, .fst, .snd]) (zfp_q2 R) (mkE2 117 zfp_l5 zfp_l6 x y) w :=
  pc_loopE (l := zfp_l5) (l' := zfp_l6) (id := 0) (b := (Code.at zfp_B [.snd, .snd, .fst, .snd, .blk, .blk])) (fun c1 s => zfp_5_ok c1 R s y) h
theorem zfp_3_ok (R : Int → World → Prop) (x : Addr × Addr × Bool × Unit) (w : World) (h : zfp_3 R x.1 x.2.1 x.2.2.1 w) : WPC P 117 [] (Code.at zfp_B [.snd, .snd, .fst]) (zfp_q2 R) (mkE 117 zfp_l4 x) w :=
  pc_cut2 (l := zfp_l5) (l' := zfp_l6) 1 (zfp_4_ok R) h
theorem zfp_1_ok (R : Int → World → Prop) (x : Addr × Addr × Bool × Unit) (w : World) (h : zfp_1 R x.1 x.2.1 x.2.2.1 w) : WPC P 117 [] (Code.at zfp_B [.snd, .snd]) (zfp_q1 R) (mkE 117 zfp_l2 x) w :=
  pc_seq (l := zfp_l3) (a := (Code.at zfp_B [.snd, .snd, .fst])) (b := (Code.at zfp_B [.snd, .snd, .snd])) (pc_cut (l := zfp_l4) (c := (Code.at zfp_B [.snd, .snd, .fst])) 0 (zfp_3_ok R) h) (zfp_2_ok R)
theorem zfp_0_ok (R : Int → World → Prop) (x : zT0 × zT1 × Unit) (w : World) (h : zfp_0 R x.1 x.2.1 w) : WPC P 117 [] (Code.at zfp_B []) (zfp_q1 R) (mkE 117 zfp_l1 x) w :=
  pc_cut (l := zfp_l2) 2 (zfp_1_ok R) h
theorem zfp_call (R : Int → World → Prop) (g_0 : zT0) (s_1 : zT1) (w : World) (h : zfp_0 R g_0 s_1 w) : mcall P n_zfp [(KV zk0 g_0), (KV zk1 s_1)] I R w :=
  pc_top (l := zfp_l1) (c := zfp_B) Tryz.func28 (zfp_0_ok R) h
noncomputable abbrev zfq_B : Code := (Tryz.f29.body).getD .skip
abbrev zfq_q1 (R : Bool → World → Prop) := (topQ P [.tmp 2] .b R)
abbrev zfq_l1 : Slots := [(0, .sl)]
def zfq_0 (R : Bool → World → Prop) (l_0 : Sl) : World → Prop :=
 mcall P n_zf25 [(Sl.v l_0), (.func (.func n_zf26) #[] #[])] .b fun (x1 : Bool) =>
 R (!x1)
theorem zfq_0_ok (R : Bool → World → Prop) (x : Sl × Unit) (w : World) (h : zfq_0 R x.1 w) : WPC P 6 [] (Code.at zfq_B []) (zfq_q1 R) (mkE 6 zfq_l1 x) w :=
  pc_end h
theorem zfq_call (R : Bool → World → Prop) (l_0 : Sl) (w : World) (h : zfq_0 R l_0 w) : mcall P n_zfq [(Sl.v l_0)] .b R w :=
  pc_top (l := zfq_l1) (c := zfq_B) Tryz.func29 (zfq_0_ok R) h
noncomputable abbrev zfr_B : Code := (Tryz.f30.body).getD .skip
abbrev zfr_q1 (R : Sl → World → Prop) := (topQ P [.tmp 2] .sl R)
abbrev zfr_l1 : Slots := [(0, .sl)]
def zfr_0 (R : Sl → World → Prop) (s_0 : Sl) : World → Prop :=
 meq P .eql zt8 (Sl.v s_0) (Sl.v ⟨none, 0, 0⟩) fun x1 =>
 mif x1
 (R ⟨none, 0, 0⟩)
 (bsl P zt8 zk6 [] fun x2 =>
 app P #[zt8, zt8] zt8 (Sl.v x2) (Sl.v s_0) fun x3 =>
 R x3)
theorem zfr_0_ok (R : Sl → World → Prop) (x : Sl × Unit) (w : World) (h : zfr_0 R x.1 w) : WPC P 8 [] (Code.at zfr_B []) (zfr_q1 R) (mkE 8 zfr_l1 x) w :=
  pc_end h
theorem zfr_call (R : Sl → World → Prop) (s_0 : Sl) (w : World) (h : zfr_0 R s_0 w) : mcall P n_zfr [(Sl.v s_0)] .sl R w :=
  pc_top (l := zfr_l1) (c := zfr_B) Tryz.func30 (zfr_0_ok R) h
noncomputable abbrev zfs_B : Code := (Tryz.f31.body).getD .skip
abbrev zfs_q1 (R : (Int × Bool × Unit) → World → Prop) := (topQ P [.tmp 2, .tmp 3] (.tup [I, .b]) R)
abbrev zfs_l1 : Slots := [(0, zk2)]
def zfs_0 (R : (Int × Bool × Unit) → World → Prop) (r_0 : zT2) : World → Prop :=
 bx P ztc zk2 r_0 fun a1 =>
 ld P zt4 (ad a1 2) .s fun (x2 : Bs) =>
 mcall P n_zf27 [(.string ⟨x2.toArray⟩)] (.tup [I, .s, I]) fun (x3 : Int × Bs × Int × Unit) =>
 mif (x3.2.2.1 == 0)
 (R (x3.1, x3.2.1 == [], ()))
 (R (x3.1, false, ()))
theorem zfs_0_ok (R : (Int × Bool × Unit) → World → Prop) (x : zT2 × Unit) (w : World) (h : zfs_0 R x.1 w) : WPC P 21 [] (Code.at zfs_B []) (zfs_q1 R) (mkE 21 zfs_l1 x) w :=
  pc_end h
theorem zfs_call (R : (Int × Bool × Unit) → World → Prop) (r_0 : zT2) (w : World) (h : zfs_0 R r_0 w) : mcall P n_zfs [(KV zk2 r_0)] (.tup [I, .b]) R w :=
  pc_top (l := zfs_l1) (c := zfs_B) Tryz.func31 (zfs_0_ok R) h
noncomputable abbrev zft_B : Code := (Tryz.f32.body).getD .skip
abbrev zft_q1 (R : (Sl × Int × Unit) → World → Prop) := (topQ P [.tmp 4, .tmp 5] (.tup [.sl, I]) R)
abbrev zft_l1 : Slots := [(0, zk0), (1, I)]
abbrev zft_l2 : Slots := [(1, I), (2, .ad), (6, .sl)]
abbrev zft_l3 : Slots := [(6, .sl)]
def zft_2 (R : (Sl × Int × Unit) → World → Prop) (l_6 : Sl) : World → Prop :=
 R (l_6, 0, ())
abbrev zft_q2 (R : (Sl × Int × Unit) → World → Prop) := (thenQ (fun env => getE env zft_l3 fun (x : Sl × Unit) => zft_2 R x.1) (zft_q1 R))
abbrev zft_l4 : Slots := [(1, I), (2, .ad), (6, .sl)]
abbrev zft_l5 : Slots := [(6, .sl), (25, I)]
abbrev zft_l6 : Slots := [(1, I), (2, .ad), (24, I)]
abbrev zft_q3 (c1 : (Sl × Int × Unit) → (Int × Addr × Int × Unit) → World → Prop) (R : (Sl × Int × Unit) → World → Prop) := (thenQ (fun env => getE env zft_l5 fun (s : Sl × Int × Unit) => getE env zft_l6 (c1 s)) (blockQ 0 ((zft_q2 R) .normal) (zft_q2 R)))
abbrev zft_l7 : Slots := [(1, I), (2, .ad), (6, .sl), (24, I), (25, I)]
def zft_6 (c1 : (Sl × Int × Unit) → (Int × Addr × Int × Unit) → World → Prop) (R : (Sl × Int × Unit) → World → Prop) (t_1 : Int) (g_2 : Addr) (l_6 : Sl) (v24 : Int) (v25 : Int) : World → Prop :=
 c1 (l_6, w64 (v25 + 1), ()) (t_1, g_2, v24, ())
def zft_5 (c1 : (Sl × Int × Unit) → (Int × Addr × Int × Unit) → World → Prop) (R : (Sl × Int × Unit) → World → Prop) (l_6 : Sl) (v25 : Int) (t_1 : Int) (g_2 : Addr) (v24 : Int) : World → Prop :=
 mif (decide (v25 < v24))
 (mdraw <|
 ld P zt1 (ad g_2 1) I fun (x6 : Int) =>
 mdz x6 <|
 ld P zt1 g_2 I fun (x7 : Int) =>
 ld P zt1 (ad g_2 1) I fun (x8 : Int) =>
 mif (decide ((w64 ((w64 ((w64 (t_1 - (t_1.tmod x6))) - x7)) + (w64 (x8 * (w64 (v25 + 1)))))) ≥ 0))
 (bsl P zt7 I [w64 ((w64 ((w64 (t_1 - (t_1.tmod x6))) - x7)) + (w64 (x8 * (w64 (v25 + 1)))))] fun x9 =>
 app P #[zt7, zt7] zt7 (Sl.v l_6) (Sl.v x9) fun x10 =>
 zft_6 c1 R t_1 g_2 x10 v24 v25)
 (zft_6 c1 R t_1 g_2 l_6 v24 v25))
 (zft_2 R l_6)
def zft_4 (R : (Sl × Int × Unit) → World → Prop) (l_6 : Sl) (v25 : Int) (t_1 : Int) (g_2 : Addr) (v24 : Int) : World → Prop :=
 W.Loop (t_1, g_2, v24, ()) (fun (c1 : (Sl × Int × Unit) → (Int × Addr × Int × Unit) → World → Prop) (s : Sl × Int × Unit) => zft_5 c1 R s.1 s.2.1 t_1 g_2 v24) (l_6, v25, ())
def zft_3 (R : (Sl × Int × Unit) → World → Prop) (t_1 : Int) (g_2 : Addr) (l_6 : Sl) : World → Prop :=
 ld P zt1 g_2 I fun (x4 : Int) =>
 ld P zt1 (ad g_2 1) I fun (x5 : Int) =>
 mdz x5 <|
 zft_4 R l_6 0 t_1 g_2 (w64 (x4.tdiv x5))
def zft_1 (R : (Sl × Int × Unit) → World → Prop) (t_1 : Int) (g_2 : Addr) (l_6 : Sl) : World → Prop :=
 zft_3 R t_1 g_2 l_6
def zft_0 (R : (Sl × Int × Unit) → World → Prop) (g_0 : zT0) (t_1 : Int) : World → Prop :=
 bx P zt5 zk0 g_0 fun a1 =>
 ld P zt5 a1 zk0 fun (x2 : zT0) =>
 mcall P n_zf22 [(KV zk0 x2)] I fun (x3 : Int) =>
 mif (x3 != 0)
 (R (⟨none, 0, 0⟩, 1, ()))
 (mif (decide (t_1 < 0))
 (R (⟨none, 0, 0⟩, 1, ()))
 (mif (decide (t_1 > 1099511627776))
 (R (⟨none, 0, 0⟩, 1, ()))
 (zft_1 R t_1 a1 ⟨none, 0, 0⟩)))
theorem zft_2_ok (R : (Sl × Int × Unit) → World → Prop) (x : Sl × Unit) (w : World) (h : zft_2 R x.1 w) : WPC P 51 [] (Code.at zft_B [.snd, .snd, .snd, .snd]) (zft_q1 R) (mkE 51 zft_l3 x) w :=
  pc_end h
theorem zft_6_ok (c1 : (Sl × Int × Unit) → (Int × Addr × Int × Unit) → World → Prop) (R : (Sl × Int × Unit) → World → Prop) (x : Int × Addr × Sl × Int × Int × Unit) (w : World) (h : zft_6 c1 R x.1 x.2.1 x.2.2.1 x.2.2.2.1 x.2.2.2.2.1 w) : WPC P 51 [] (Code.at zft_B [.snd, .snd, .snd, .fst, .snd, .blk, .blk, .snd, .snd, .snd]) (zft_q3 c1 R) (mkE 51 zft_l7 x) w :=
  pc_end h
theorem zft_5_ok (c1 : (Sl × Int × Unit) → (Int × Addr × Int × Unit) → World → Prop) (R : (Sl × Int × Unit) → World → Prop) (x : Sl × Int × Unit) (y : Int × Addr × Int × Unit) (w : World) (h : zft_5 c1 R x.1 x.2.1 y.1 y.2.1 y.2.2.1 w) : WPC P 51 [] (Code.at zft_B [.snd, .snd, .snd, .fst, .snd, .blk, .blk]) (zft_q3 c1 R) (mkE2 51 zft_l5 zft_l6 x y) w :=
  pc_cut (l := zft_l7) 3 (zft_6_ok c1 R) h
theorem zft_4_ok (R : (Sl × Int × Unit) → World → Prop) (x : Sl × Int × Unit) (y : Int × Addr × Int × Unit) (w : World) (h : zft_4 R x.1 x.2.1 y.1 y.2.1 y.2.2.1 w) : WPC P 51 [] (Code.at zft_B [.snd, .snd, .snd, .fst, .snd]) (zft_q2 R) (mkE2 51 zft_l5 zft_l6 x y) w :=
  pc_loopE (l := zft_l5) (l' := zft_l6) (id := 0) (b := (Code.at zft_B [.snd, .snd, .snd, .fst, .snd, .blk, .blk])) (fun c1 s => zft_5_ok c1 R s y) h
theorem zft_3_ok (R : (Sl × Int × Unit) → World → Prop) (x : Int × Addr × Sl × Unit) (w : World) (h : zft_3 R x.1 x.2.1 x.2.2.1 w) : WPC P 51 [] (Code.at zft_B [.snd, .snd, .snd, .fst]) (zft_q2 R) (mkE 51 zft_l4 x) w :=
  pc_cut2 (l := zft_l5) (l' := zft_l6) 1 (zft_4_ok R) h
theorem zft_1_ok (R : (Sl × Int × Unit) → World → Prop) (x : Int × Addr × Sl × Unit) (w : World) (h : zft_1 R x.1 x.2.1 x.2.2.1 w) : WPC P 51 [] (Code.at zft_B [.snd, .snd, .snd]) (zft_q1 R) (mkE 51 zft_l2 x) w :=
  pc_seq (l := zft_l3) (a := (Code.at zft_B [.snd, .snd, .snd, .fst])) (b := (Code.at zft_B [.snd, .snd, .snd, .snd])) (pc_cut (l := zft_l4) (c := (Code.at zft_B [.snd, .snd, .snd, .fst])) 0 (zft_3_ok R) h) (zft_2_ok R)
theorem zft_0_ok (R : (Sl × Int × Unit) → World → Prop) (x : zT0 × Int × Unit) (w : World) (h : zft_0 R x.1 x.2.1 w) : WPC P 51 [] (Code.at zft_B []) (zft_q1 R) (mkE 51 zft_l1 x) w :=
  pc_cut (l := zft_l2) 3 (zft_1_ok R) h
theorem zft_call (R : (Sl × Int × Unit) → World → Prop) (g_0 : zT0) (t_1 : Int) (w : World) (h : zft_0 R g_0 t_1 w) : mcall P n_zft [(KV zk0 g_0), (.int .i64 t_1)] (.tup [.sl, I]) R w :=
  pc_top (l := zft_l1) (c := zft_B) Tryz.func32 (zft_0_ok R) h
noncomputable abbrev zfu_B : Code := (Tryz.f33.body).getD .skip
abbrev zfu_q1 (R : Sl → World → Prop) := (topQ P [.tmp 4] .sl R)
abbrev zfu_l1 : Slots := [(0, .sl), (1, .v)]
abbrev zfu_l2 : Slots := [(0, .sl), (1, .v), (5, I)]
abbrev zfu_l3 : Slots := [(0, .sl), (5, I)]
def zfu_2 (R : Sl → World → Prop) (s_0 : Sl) (i_5 : Int) : World → Prop :=
 slc P zt7 s_0 (some i_5) none fun x2 =>
 mop P (Builtin.clear_ #[zt7] zt0 #[.slice x2.a x2.len x2.cap]) .v fun (x3 : Value) =>
 slc P zt7 s_0 none (some i_5) fun x4 =>
 R x4
abbrev zfu_q2 (R : Sl → World → Prop) := (thenQ (fun env => getE env zfu_l3 fun (x : Sl × Int × Unit) => zfu_2 R x.1 x.2.1) (zfu_q1 R))
abbrev zfu_l4 : Slots := [(0, .sl), (1, .v), (5, I)]
abbrev zfu_l5 : Slots := [(5, I), (6, I)]
abbrev zfu_l6 : Slots := [(0, .sl), (1, .v)]
abbrev zfu_q3 (c1 : (Int × Int × Unit) → (Sl × Value × Unit) → World → Prop) (R : Sl → World → Prop) := (thenQ (fun env => getE env zfu_l5 fun (s : Int × Int × Unit) => getE env zfu_l6 (c1 s)) (blockQ 0 ((zfu_q2 R) .normal) (zfu_q2 R)))
abbrev zfu_l7 : Slots := [(0, .sl), (1, .v), (5, I), (6, I)]
def zfu_6 (c1 : (Int × Int × Unit) → (Sl × Value × Unit) → World → Prop) (R : Sl → World → Prop) (s_0 : Sl) (del_1 : Value) (i_5 : Int) (j_6 : Int) : World → Prop :=
 c1 (i_5, w64 (j_6 + 1), ()) (s_0, del_1, ())
def zfu_5 (c1 : (Int × Int × Unit) → (Sl × Value × Unit) → World → Prop) (R : Sl → World → Prop) (i_5 : Int) (j_6 : Int) (s_0 : Sl) (del_1 : Value) : World → Prop :=
 mif (decide (j_6 < (s_0.len : Int)))
 (ixa P zt7 (Sl.v s_0) j_6 fun x5 =>
 ld P zt1 x5 I fun (x6 : Int) =>
 mdyn P del_1 [.int .i64 x6] .b fun (x7 : Bool) =>
 mif (!x7)
 (ixa P zt7 (Sl.v s_0) i_5 fun x8 =>
 sto P zt1 x8 I x6 <|
 zfu_6 c1 R s_0 del_1 (w64 (i_5 + 1)) j_6)
 (zfu_6 c1 R s_0 del_1 i_5 j_6))
 (zfu_2 R s_0 i_5)
def zfu_4 (R : Sl → World → Prop) (i_5 : Int) (j_6 : Int) (s_0 : Sl) (del_1 : Value) : World → Prop :=
 W.Loop (s_0, del_1, ()) (fun (c1 : (Int × Int × Unit) → (Sl × Value × Unit) → World → Prop) (s : Int × Int × Unit) => zfu_5 c1 R s.1 s.2.1 s_0 del_1) (i_5, j_6, ())
def zfu_3 (R : Sl → World → Prop) (s_0 : Sl) (del_1 : Value) (i_5 : Int) : World → Prop :=
 zfu_4 R i_5 (w64 (i_5 + 1)) s_0 del_1
def zfu_1 (R : Sl → World → Prop) (s_0 : Sl) (del_1 : Value) (i_5 : Int) : World → Prop :=
 zfu_3 R s_0 del_1 i_5
def zfu_0 (R : Sl → World → Prop) (s_0 : Sl) (del_1 : Value) : World → Prop :=
 mcall P n_zf28 [(Sl.v s_0), del_1] I fun (x1 : Int) =>
 mif (x1 == (-1))
 (R s_0)
 (zfu_1 R s_0 del_1 x1)
theorem zfu_2_ok (R : Sl → World → Prop) (x : Sl × Int × Unit) (w : World) (h : zfu_2 R x.1 x.2.1 w) : WPC P 42 [] (Code.at zfu_B [.snd, .snd, .snd, .snd]) (zfu_q1 R) (mkE 42 zfu_l3 x) w :=
  pc_end h
theorem zfu_6_ok (c1 : (Int × Int × Unit) → (Sl × Value × Unit) → World → Prop) (R : Sl → World → Prop) (x : Sl × Value × Int × Int × Unit) (w : World) (h : zfu_6 c1 R x.1 x.2.1 x.2.2.1 x.2.2.2.1 w) : WPC P 42 [] (Code.at zfu_B [.snd, .snd, .snd, .fst, .snd, .blk, .blk, .snd, .snd]) (zfu_q3 c1 R) (mkE 42 zfu_l7 x) w :=
  pc_end h
theorem zfu_5_ok (c1 : (Int × Int × Unit) → (Sl × Value × Unit) → World → Prop) (R : Sl → World → Prop) (x : Int × Int × Unit) (y : Sl × Value × Unit) (w : World) (h : zfu_5 c1 R x.1 x.2.1 y.1 y.2.1 w) : WPC P 42 [] (Code.at zfu_B [.snd, .snd, .snd, .fst, .snd, .blk, .blk]) (zfu_q3 c1 R) (mkE2 42 zfu_l5 zfu_l6 x y) w :=
  pc_cut (l := zfu_l7) 2 (zfu_6_ok c1 R) h
theorem zfu_4_ok (R : Sl → World → Prop) (x : Int × Int × Unit) (y : Sl × Value × Unit) (w : World) (h : zfu_4 R x.1 x.2.1 y.1 y.2.1 w) : WPC P 42 [] (Code.at zfu_B [.snd, .snd, .snd, .fst, .snd]) (zfu_q2 R) (mkE2 42 zfu_l5 zfu_l6 x y) w :=
  pc_loopE (l := zfu_l5) (l' := zfu_l6) (id := 0) (b := (Code.at zfu_B [.snd, .snd, .snd, .fst, .snd, .blk, .blk])) (fun c1 s => zfu_5_ok c1 R s y) h
theorem zfu_3_ok (R : Sl → World → Prop) (x : Sl × Value × Int × Unit) (w : World) (h : zfu_3 R x.1 x.2.1 x.2.2.1 w) : WPC P 42 [] (Code.at zfu_B [.snd, .snd, .snd, .fst]) (zfu_q2 R) (mkE 42 zfu_l4 x) w :=
  pc_cut2 (l := zfu_l5) (l' := zfu_l6) 1 (zfu_4_ok R) h
theorem zfu_1_ok (R : Sl → World → Prop) (x : Sl × Value × Int × Unit) (w : World) (h : zfu_1 R x.1 x.2.1 x.2.2.1 w) : WPC P 42 [] (Code.at zfu_B [.snd, .snd, .snd]) (zfu_q1 R) (mkE 42 zfu_l2 x) w :=
  pc_seq (l := zfu_l3) (a := (Code.at zfu_B [.snd, .snd, .snd, .fst])) (b := (Code.at zfu_B [.snd, .snd, .snd, .snd])) (pc_cut (l := zfu_l4) (c := (Code.at zfu_B [.snd, .snd, .snd, .fst])) 0 (zfu_3_ok R) h) (zfu_2_ok R)
theorem zfu_0_ok (R : Sl → World → Prop) (x : Sl × Value × Unit) (w : World) (h : zfu_0 R x.1 x.2.1 w) : WPC P 42 [] (Code.at zfu_B []) (zfu_q1 R) (mkE 42 zfu_l1 x) w :=
  pc_cut (l := zfu_l2) 3 (zfu_1_ok R) h
theorem zfu_call (R : Sl → World → Prop) (s_0 : Sl) (del_1 : Value) (w : World) (h : zfu_0 R s_0 del_1 w) : mcall P n_zfu [(Sl.v s_0), del_1] .sl R w :=
  pc_top (l := zfu_l1) (c := zfu_B) Tryz.func33 (zfu_0_ok R) h
noncomputable abbrev zfv_B : Code := (Tryz.f34.body).getD .skip
abbrev zfv_q1 (R : Bool → World → Prop) := (topQ P [.tmp 4] .b R)
abbrev zfv_l1 : Slots := [(0, I), (1, .ad), (2, .ad)]
def zfv_0 (R : Bool → World → Prop) (at_0 : Int) (v1 : Addr) (v2 : Addr) : World → Prop :=
 ld P zt5 v1 zk0 fun (x1 : zT0) =>
 ld P zt1 v2 I fun (x2 : Int) =>
 mcall P n_zfw [(KV zk0 x1), (.int .i64 at_0), (.int .i64 x2)] .b fun (x3 : Bool) =>
 R x3
theorem zfv_0_ok (R : Bool → World → Prop) (x : Int × Addr × Addr × Unit) (w : World) (h : zfv_0 R x.1 x.2.1 x.2.2.1 w) : WPC P 10 [] (Code.at zfv_B []) (zfv_q1 R) (mkE 10 zfv_l1 x) w :=
  pc_end h
theorem zfv_call (R : Bool → World → Prop) (at_0 : Int) (v1 : Addr) (v2 : Addr) (w : World) (h : zfv_0 R at_0 v1 v2 w) : mcall P n_zfv [(.int .i64 at_0), .pointer (some v1), .pointer (some v2)] .b R w :=
  pc_top (l := zfv_l1) (c := zfv_B) Tryz.func34 (zfv_0_ok R) h
noncomputable abbrev zfw_B : Code := (Tryz.f35.body).getD .skip
abbrev zfw_q1 (R : Bool → World → Prop) := (topQ P [.tmp 6] .b R)
abbrev zfw_l1 : Slots := [(0, zk0), (1, I), (2, I)]
def zfw_0 (R : Bool → World → Prop) (g_0 : zT0) (start_1 : Int) (mark_2 : Int) : World → Prop :=
 bx P zt5 zk0 g_0 fun a1 =>
 ld P zt5 a1 zk0 fun (x2 : zT0) =>
 mcall P n_zf22 [(KV zk0 x2)] I fun (x3 : Int) =>
 mif (x3 == 0)
 (mif (decide (mark_2 ≥ 0))
 (ld P zt1 a1 I fun (x4 : Int) =>
 ld P zt1 (ad a1 2) I fun (x5 : Int) =>
 R (decide (start_1 ≤ (w64 ((w64 (mark_2 - x4)) - x5)))))
 (R false))
 (R false)
theorem zfw_0_ok (R : Bool → World → Prop) (x : zT0 × Int × Int × Unit) (w : World) (h : zfw_0 R x.1 x.2.1 x.2.2.1 w) : WPC P 25 [] (Code.at zfw_B []) (zfw_q1 R) (mkE 25 zfw_l1 x) w :=
  pc_end h
theorem zfw_call (R : Bool → World → Prop) (g_0 : zT0) (start_1 : Int) (mark_2 : Int) (w : World) (h : zfw_0 R g_0 start_1 mark_2 w) : mcall P n_zfw [(KV zk0 g_0), (.int .i64 start_1), (.int .i64 mark_2)] .b R w :=
  pc_top (l := zfw_l1) (c := zfw_B) Tryz.func35 (zfw_0_ok R) h
noncomputable abbrev zfx_B : Code := (Tryz.f36.body).getD .skip
abbrev zfx_q1 (R : Bool → World → Prop) := (topQ P [.tmp 8] .b R)
abbrev zfx_l1 : Slots := [(0, .p), (1, I), (2, I), (3, .sl)]
abbrev zfx_l2 : Slots := [(0, .p), (1, I), (2, I), (3, .sl), (9, .sl)]
abbrev zfx_l3 : Slots := [(0, .p), (9, .sl)]
def zfx_2 (R : Bool → World → Prop) (s_0 : Option Addr) (l_9 : Sl) : World → Prop :=
 mif (decide ((l_9.len : Int) > 64))
 (R false)
 (mnil s_0 fun a4 =>
 sto P zt8 (ad a4 4) .sl l_9 <|
 R true)
abbrev zfx_q2 (R : Bool → World → Prop) := (thenQ (fun env => getE env zfx_l3 fun (x : Option Addr × Sl × Unit) => zfx_2 R x.1 x.2.1) (zfx_q1 R))
abbrev zfx_l4 : Slots := [(0, .p), (1, I), (2, I), (3, .sl), (9, .sl)]
abbrev zfx_l5 : Slots := [(9, .sl), (22, I)]
abbrev zfx_l6 : Slots := [(0, .p), (1, I), (2, I), (20, .sl), (21, I)]
abbrev zfx_q3 (c1 : (Sl × Int × Unit) → (Option Addr × Int × Int × Sl × Int × Unit) → World → Prop) (R : Bool → World → Prop) := (thenQ (fun env => getE env zfx_l5 fun (s : Sl × Int × Unit) => getE env zfx_l6 (c1 s)) (blockQ 0 ((zfx_q2 R) .normal) (zfx_q2 R)))
abbrev zfx_l7 : Slots := [(0, .p), (1, I), (2, I), (9, .sl), (20, .sl), (21, I), (22, I)]
def zfx_6 (c1 : (Sl × Int × Unit) → (Option Addr × Int × Int × Sl × Int × Unit) → World → Prop) (R : Bool → World → Prop) (s_0 : Option Addr) (key_1 : Int) (v_2 : Int) (l_9 : Sl) (v20 : Sl) (v21 : Int) (v22 : Int) : World → Prop :=
 c1 (l_9, w64 (v22 + 1), ()) (s_0, key_1, v_2, v20, v21, ())
def zfx_5 (c1 : (Sl × Int × Unit) → (Option Addr × Int × Int × Sl × Int × Unit) → World → Prop) (R : Bool → World → Prop) (l_9 : Sl) (v22 : Int) (s_0 : Option Addr) (key_1 : Int) (v_2 : Int) (v20 : Sl) (v21 : Int) : World → Prop :=
 mif (decide (v22 < v21))
 (ixa P zt7 (Sl.v v20) v22 fun x5 =>
 ld P zt1 x5 I fun (x6 : Int) =>
 alo P zth fun a7 =>
 sto P zth a7 zk6 (key_1, x6, (0, 0, 0, 0, (0, 0, 0, 0, ()), 0, 0, ()), ()) <|
 ld P zth a7 zk6 fun (x8 : zT6) =>
 mcall P n_zf29 [(Sl.v l_9), (KV zk6 x8), (.func (.func n_zf24) #[] #[])] (.tup [I, .b]) fun (x9 : Int × Bool × Unit) =>
 mif (!x9.2.1)
 (ld P zth a7 zk6 fun (x10 : zT6) =>
 bsl P zt8 zk6 [x10] fun x11 =>
 mcall P n_zf2a [(Sl.v l_9), (.int .i64 x9.1), (Sl.v x11)] .sl fun (x12 : Sl) =>
 ixa P zt8 (Sl.v x12) x9.1 fun x13 =>
 ld P ztg (ad x13 2) zk5 fun (x14 : zT5) =>
 mcall P n_zf2b [(KV zk5 x14), (.int .i64 v_2)] zk5 fun (x15 : zT5) =>
 ixa P zt8 (Sl.v x12) x9.1 fun x16 =>
 sto P ztg (ad x16 2) zk5 x15 <|
 zfx_6 c1 R s_0 key_1 v_2 x12 v20 v21 v22)
 (ixa P zt8 (Sl.v l_9) x9.1 fun x17 =>
 ld P ztg (ad x17 2) zk5 fun (x18 : zT5) =>
 mcall P n_zf2b [(KV zk5 x18), (.int .i64 v_2)] zk5 fun (x19 : zT5) =>
 ixa P zt8 (Sl.v l_9) x9.1 fun x20 =>
 sto P ztg (ad x20 2) zk5 x19 <|
 zfx_6 c1 R s_0 key_1 v_2 l_9 v20 v21 v22))
 (zfx_2 R s_0 l_9)
def zfx_4 (R : Bool → World → Prop) (l_9 : Sl) (v22 : Int) (s_0 : Option Addr) (key_1 : Int) (v_2 : Int) (v20 : Sl) (v21 : Int) : World → Prop :=
 W.Loop (s_0, key_1, v_2, v20, v21, ()) (fun (c1 : (Sl × Int × Unit) → (Option Addr × Int × Int × Sl × Int × Unit) → World → Prop) (s : Sl × Int × Unit) => zfx_5 c1 R s.1 s.2.1 s_0 key_1 v_2 v20 v21) (l_9, v22, ())
def zfx_3 (R : Bool → World → Prop) (s_0 : Option Addr) (key_1 : Int) (v_2 : Int) (starts_3 : Sl) (l_9 : Sl) : World → Prop :=
 zfx_4 R l_9 0 s_0 key_1 v_2 starts_3 (starts_3.len : Int)
def zfx_1 (R : Bool → World → Prop) (s_0 : Option Addr) (key_1 : Int) (v_2 : Int) (starts_3 : Sl) (l_9 : Sl) : World → Prop :=
 zfx_3 R s_0 key_1 v_2 starts_3 l_9
def zfx_0 (R : Bool → World → Prop) (s_0 : Option Addr) (key_1 : Int) (v_2 : Int) (starts_3 : Sl) : World → Prop :=
 mnil s_0 fun a1 =>
 ld P zt8 (ad a1 4) .sl fun (x2 : Sl) =>
 mcall P n_zfr [(Sl.v x2)] .sl fun (x3 : Sl) =>
 zfx_1 R s_0 key_1 v_2 starts_3 x3
theorem zfx_2_ok (R : Bool → World → Prop) (x : Option Addr × Sl × Unit) (w : World) (h : zfx_2 R x.1 x.2.1 w) : WPC P 61 [] (Code.at zfx_B [.snd, .snd, .snd]) (zfx_q1 R) (mkE 61 zfx_l3 x) w :=
  pc_end h
theorem zfx_6_ok (c1 : (Sl × Int × Unit) → (Option Addr × Int × Int × Sl × Int × Unit) → World → Prop) (R : Bool → World → Prop) (x : Option Addr × Int × Int × Sl × Sl × Int × Int × Unit) (w : World) (h : zfx_6 c1 R x.1 x.2.1 x.2.2.1 x.2.2.2.1 x.2.2.2.2.1 x.2.2.2.2.2.1 x.2.2.2.2.2.2.1 w) : WPC P 61 [] (Code.at zfx_B [.snd, .snd, .fst, .snd, .blk, .blk, .snd, .snd, .snd]) (zfx_q3 c1 R) (mkE 61 zfx_l7 x) w :=
  pc_end h
theorem zfx_5_ok (c1 : (Sl × Int × Unit) → (Option Addr × Int × Int × Sl × Int × Unit) → World → Prop) (R : Bool → World → Prop) (x : Sl × Int × Unit) (y : Option Addr × Int × Int × Sl × Int × Unit) (w : World) (h : zfx_5 c1 R x.1 x.2.1 y.1 y.2.1 y.2.2.1 y.2.2.2.1 y.2.2.2.2.1 w) : WPC P 61 [] (Code.at zfx_B [.snd, .snd, .fst, .snd, .blk, .blk]) (zfx_q3 c1 R) (mkE2 61 zfx_l5 zfx_l6 x y) w :=
  pc_cut (l := zfx_l7) 3 (zfx_6_ok c1 R) h
theorem zfx_4_ok (R : Bool → World → Prop) (x : Sl × Int × Unit) (y : Option Addr × Int × Int × Sl × Int × Unit) (w : World) (h : zfx_4 R x.1 x.2.1 y.1 y.2.1 y.2.2.1 y.2.2.2.1 y.2.2.2.2.1 w) : WPC P 61 [] (Code.at zfx_B [.snd, .snd, .fst, .snd]) (zfx_q2 R) (mkE2 61 zfx_l5 zfx_l6 x y) w :=
  pc_loopE (l := zfx_l5) (l' := zfx_l6) (id := 0) (b := (Code.at zfx_B [.snd, .snd, .fst, .snd, .blk, .blk])) (fun c1 s => zfx_5_ok c1 R s y) h
theorem zfx_3_ok (R : Bool → World → Prop) (x : Option Addr × Int × Int × Sl × Sl × Unit) (w : World) (h : zfx_3 R x.1 x.2.1 x.2.2.1 x.2.2.2.1 x.2.2.2.2.1 w) : WPC P 61 [] (Code.at zfx_B [.snd, .snd, .fst]) (zfx_q2 R) (mkE 61 zfx_l4 x) w :=
  pc_cut2 (l := zfx_l5) (l' := zfx_l6) 1 (zfx_4_ok R) h
theorem zfx_1_ok (R : Bool → World → Prop) (x : Option Addr × Int × Int × Sl × Sl × Unit) (w : World) (h : zfx_1 R x.1 x.2.1 x.2.2.1 x.2.2.2.1 x.2.2.2.2.1 w) : WPC P 61 [] (Code.at zfx_B [.snd, .snd]) (zfx_q1 R) (mkE 61 zfx_l2 x) w :=
  pc_seq (l := zfx_l3) (a := (Code.at zfx_B [.snd, .snd, .fst])) (b := (Code.at zfx_B [.snd, .snd, .snd])) (pc_cut (l := zfx_l4) (c := (Code.at zfx_B [.snd, .snd, .fst])) 0 (zfx_3_ok R) h) (zfx_2_ok R)
theorem zfx_0_ok (R : Bool → World → Prop) (x : Option Addr × Int × Int × Sl × Unit) (w : World) (h : zfx_0 R x.1 x.2.1 x.2.2.1 x.2.2.2.1 w) : WPC P 61 [] (Code.at zfx_B []) (zfx_q1 R) (mkE 61 zfx_l1 x) w :=
  pc_cut (l := zfx_l2) 2 (zfx_1_ok R) h
theorem zfx_call (R : Bool → World → Prop) (s_0 : Option Addr) (key_1 : Int) (v_2 : Int) (starts_3 : Sl) (w : World) (h : zfx_0 R s_0 key_1 v_2 starts_3 w) : mcall P n_zfx [(.pointer s_0), (.int .i64 key_1), (.int .i64 v_2), (Sl.v starts_3)] .b R w :=
  pc_top (l := zfx_l1) (c := zfx_B) Tryz.func36 (zfx_0_ok R) h
end Go.Proofs.YtpjhflboedicpaaGreatDoor
