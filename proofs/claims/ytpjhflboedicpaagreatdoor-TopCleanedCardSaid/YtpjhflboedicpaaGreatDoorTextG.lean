/- Short texts of functions of the program, each with the proof that a call comes to it. No condition. -/
import Derived.Test.YtpjhflboedicpaaGreatDoorNames
set_option linter.unusedVariables false
set_option linter.unusedSimpArgs false
namespace Go.Proofs.YtpjhflboedicpaaGreatDoor
open Go Go.W
set_option maxRecDepth 100000
noncomputable abbrev zf1v_B : Code := (Tryz.f70.body).getD .skip
abbrev zf1v_q1 (R : Unit → World → Prop) := (topQ P [] (.tup []) R)
abbrev zf1v_l1 : Slots := [(0, .p), (1, zk1), (2, I)]
def zf1v_0 (R : Unit → World → Prop) (p_0 : Option Addr) (b_1 : zT1) (base_2 : Int) : World → Prop :=
 bx P ztj zk1 b_1 fun a1 =>
 mdraw <|
 mnil p_0 fun a2 =>
 ld P ztt (ad a2 1) .sl fun (x3 : Sl) =>
 ld P ztj a1 zk1 fun (x4 : zT1) =>
 mcall P n_zf3b [(Sl.v x3), (KV zk1 x4), (.int .i64 base_2)] .sl fun (x5 : Sl) =>
 mnil p_0 fun a6 =>
 sto P ztt (ad a6 1) .sl x5 <|
 ld P zt1 (ad a1 1) I fun (x7 : Int) =>
 mcall P n_zf3c [(.pointer p_0), (.int .i64 x7)] I fun (x8 : Int) =>
 ld P zt1 a1 I fun (x9 : Int) =>
 mif (x9 == 2)
 (mif (decide (x8 < 0))
 (mdraw <|
 mnil p_0 fun a10 =>
 ld P ztu (ad a10 2) .sl fun (x11 : Sl) =>
 ld P zt1 (ad a1 1) I fun (x12 : Int) =>
 bsl P ztu zkc [(x12, base_2, ())] fun x13 =>
 mst P (Instr.loadAt ztu (.pointer (some (ad a10 2)))) (.slice x11.a x11.len x11.cap) <|
 app P #[ztu, ztu] ztu (Sl.v x11) (Sl.v x13) fun x14 =>
 mnil p_0 fun a15 =>
 sto P ztu (ad a15 2) .sl x14 <|
 R (()))
 (ld P zt1 a1 I fun (x16 : Int) =>
 mif (x16 == 4)
 (mif (decide (x8 ≥ 0))
 (mdraw <|
 mnil p_0 fun a17 =>
 ld P ztv (ad a17 3) .sl fun (x18 : Sl) =>
 ld P zt1 (ad a1 1) I fun (x19 : Int) =>
 mnil p_0 fun a20 =>
 ld P ztu (ad a20 2) .sl fun (x21 : Sl) =>
 ixa P ztu (Sl.v x21) x8 fun x22 =>
 ld P zt1 (ad x22 1) I fun (x23 : Int) =>
 bsl P ztv zk0 [(x19, x23, base_2, ())] fun x24 =>
 mst P (Instr.loadAt ztv (.pointer (some (ad a17 3)))) (.slice x18.a x18.len x18.cap) <|
 app P #[ztv, ztv] ztv (Sl.v x18) (Sl.v x24) fun x25 =>
 mnil p_0 fun a26 =>
 sto P ztv (ad a26 3) .sl x25 <|
 mnil p_0 fun a27 =>
 ld P ztu (ad a27 2) .sl fun (x28 : Sl) =>
 mcall P n_zf3d [(Sl.v x28), (.int .i64 x8), (.int .i64 (w64 (x8 + 1)))] .sl fun (x29 : Sl) =>
 mnil p_0 fun a30 =>
 sto P ztu (ad a30 2) .sl x29 <|
 R (()))
 (ld P zt1 a1 I fun (x31 : Int) =>
 mif (x31 == 3)
 (mif (decide (x8 ≥ 0))
 (mnil p_0 fun a32 =>
 ld P ztu (ad a32 2) .sl fun (x33 : Sl) =>
 mcall P n_zf3d [(Sl.v x33), (.int .i64 x8), (.int .i64 (w64 (x8 + 1)))] .sl fun (x34 : Sl) =>
 mnil p_0 fun a35 =>
 sto P ztu (ad a35 2) .sl x34 <|
 R (()))
 (R (())))
 (R (()))))
 (ld P zt1 a1 I fun (x36 : Int) =>
 mif (x36 == 3)
 (mif (decide (x8 ≥ 0))
 (mnil p_0 fun a37 =>
 ld P ztu (ad a37 2) .sl fun (x38 : Sl) =>
 mcall P n_zf3d [(Sl.v x38), (.int .i64 x8), (.int .i64 (w64 (x8 + 1)))] .sl fun (x39 : Sl) =>
 mnil p_0 fun a40 =>
 sto P ztu (ad a40 2) .sl x39 <|
 R (()))
 (R (())))
 (R (())))))
 (ld P zt1 a1 I fun (x41 : Int) =>
 mif (x41 == 4)
 (mif (decide (x8 ≥ 0))
 (mdraw <|
 mnil p_0 fun a42 =>
 ld P ztv (ad a42 3) .sl fun (x43 : Sl) =>
 ld P zt1 (ad a1 1) I fun (x44 : Int) =>
 mnil p_0 fun a45 =>
 ld P ztu (ad a45 2) .sl fun (x46 : Sl) =>
 ixa P ztu (Sl.v x46) x8 fun x47 =>
 ld P zt1 (ad x47 1) I fun (x48 : Int) =>
 bsl P ztv zk0 [(x44, x48, base_2, ())] fun x49 =>
 mst P (Instr.loadAt ztv (.pointer (some (ad a42 3)))) (.slice x43.a x43.len x43.cap) <|
 app P #[ztv, ztv] ztv (Sl.v x43) (Sl.v x49) fun x50 =>
 mnil p_0 fun a51 =>
 sto P ztv (ad a51 3) .sl x50 <|
 mnil p_0 fun a52 =>
 ld P ztu (ad a52 2) .sl fun (x53 : Sl) =>
 mcall P n_zf3d [(Sl.v x53), (.int .i64 x8), (.int .i64 (w64 (x8 + 1)))] .sl fun (x54 : Sl) =>
 mnil p_0 fun a55 =>
 sto P ztu (ad a55 2) .sl x54 <|
 R (()))
 (ld P zt1 a1 I fun (x56 : Int) =>
 mif (x56 == 3)
 (mif (decide (x8 ≥ 0))
 (mnil p_0 fun a57 =>
 ld P ztu (ad a57 2) .sl fun (x58 : Sl) =>
 mcall P n_zf3d [(Sl.v x58), (.int .i64 x8), (.int .i64 (w64 (x8 + 1)))] .sl fun (x59 : Sl) =>
 mnil p_0 fun a60 =>
 sto P ztu (ad a60 2) .sl x59 <|
 R (()))
 (R (())))
 (R (()))))
 (ld P zt1 a1 I fun (x61 : Int) =>
 mif (x61 == 3)
 (mif (decide (x8 ≥ 0))
 (mnil p_0 fun a62 =>
 ld P ztu (ad a62 2) .sl fun (x63 : Sl) =>
 mcall P n_zf3d [(Sl.v x63), (.int .i64 x8), (.int .i64 (w64 (x8 + 1)))] .sl fun (x64 : Sl) =>
 mnil p_0 fun a65 =>
 sto P ztu (ad a65 2) .sl x64 <|
 R (()))
 (R (())))
 (R (()))))
theorem zf1v_0_ok (R : Unit → World → Prop) (x : Option Addr × zT1 × Int × Unit) (w : World) (h : zf1v_0 R x.1 x.2.1 x.2.2.1 w) : WPC P 90 [] (Code.at zf1v_B []) (zf1v_q1 R) (mkE 90 zf1v_l1 x) w :=
  pc_end h
theorem zf1v_call (R : Unit → World → Prop) (p_0 : Option Addr) (b_1 : zT1) (base_2 : Int) (w : World) (h : zf1v_0 R p_0 b_1 base_2 w) : mcall P n_zf1v [(.pointer p_0), (KV zk1 b_1), (.int .i64 base_2)] (.tup []) R w :=
  pc_top (l := zf1v_l1) (c := zf1v_B) Tryz.func70 (zf1v_0_ok R) h
noncomputable abbrev zf1w_B : Code := (Tryz.f71.body).getD .skip
abbrev zf1w_q1 (R : Bool → World → Prop) := (topQ P [.tmp 2] .b R)
abbrev zf1w_l1 : Slots := [(0, .p)]
def zf1w_0 (R : Bool → World → Prop) (p_0 : Option Addr) : World → Prop :=
 meq P .eql zti (.pointer p_0) (.pointer none) fun x1 =>
 mif x1
 (R true)
 (mnil p_0 fun a2 =>
 ld P zts a2 .p fun (x3 : Option Addr) =>
 meq P .eql zts (.pointer x3) (.pointer none) fun x4 =>
 R x4)
theorem zf1w_0_ok (R : Bool → World → Prop) (x : Option Addr × Unit) (w : World) (h : zf1w_0 R x.1 w) : WPC P 12 [] (Code.at zf1w_B []) (zf1w_q1 R) (mkE 12 zf1w_l1 x) w :=
  pc_end h
theorem zf1w_call (R : Bool → World → Prop) (p_0 : Option Addr) (w : World) (h : zf1w_0 R p_0 w) : mcall P n_zf1w [(.pointer p_0)] .b R w :=
  pc_top (l := zf1w_l1) (c := zf1w_B) Tryz.func71 (zf1w_0_ok R) h
noncomputable abbrev zf1x_B : Code := (Tryz.f72.body).getD .skip
abbrev zf1x_q1 (R : Int → World → Prop) := (topQ P [.tmp 2] I R)
abbrev zf1x_l1 : Slots := [(0, .p)]
def zf1x_0 (R : Int → World → Prop) (l_0 : Option Addr) : World → Prop :=
 meq P .eql zts (.pointer l_0) (.pointer none) fun x1 =>
 mif x1
 (R 1)
 (mnil l_0 fun a2 =>
 ld P ztb (ad a2 6) I fun (x3 : Int) =>
 R x3)
theorem zf1x_0_ok (R : Int → World → Prop) (x : Option Addr × Unit) (w : World) (h : zf1x_0 R x.1 w) : WPC P 9 [] (Code.at zf1x_B []) (zf1x_q1 R) (mkE 9 zf1x_l1 x) w :=
  pc_end h
theorem zf1x_call (R : Int → World → Prop) (l_0 : Option Addr) (w : World) (h : zf1x_0 R l_0 w) : mcall P n_zf1x [(.pointer l_0)] I R w :=
  pc_top (l := zf1x_l1) (c := zf1x_B) Tryz.func72 (zf1x_0_ok R) h
noncomputable abbrev zf1y_B : Code := (Tryz.f73.body).getD .skip
abbrev zf1y_q1 (R : (Int × Bool × Int × Unit) → World → Prop) := (topQ P [.tmp 4, .tmp 5, .tmp 6] (.tup [I, .b, I]) R)
abbrev zf1y_l1 : Slots := [(0, .sl), (1, zk1)]
abbrev zf1y_l2 : Slots := [(3, .ad), (7, .ad)]
abbrev zf1y_l3 : Slots := [(3, .ad), (7, .ad)]
abbrev zf1y_l4 : Slots := []
def zf1y_3 (R : (Int × Bool × Int × Unit) → World → Prop) : World → Prop :=
 R (0, false, 7, ())
def zf1y_2 (R : (Int × Bool × Int × Unit) → World → Prop) (b_3 : Addr) (p_7 : Addr) : World → Prop :=
 ld P zt1 (ad p_7 3) I fun (x18 : Int) =>
 mif (decide (x18 > 0))
 (ld P zt1 (ad b_3 3) I fun (x19 : Int) =>
 ld P zt1 (ad p_7 2) I fun (x20 : Int) =>
 mif (x19 == x20)
 (ld P zt6 (ad b_3 4) .sl fun (x21 : Sl) =>
 ld P zt1 (ad p_7 3) I fun (x22 : Int) =>
 mif ((x21.len : Int) == x22)
 (ld P zt1 (ad p_7 4) I fun (x23 : Int) =>
 R (x23, true, 0, ()))
 (ld P zt1 (ad p_7 3) I fun (x24 : Int) =>
 mif (decide (x24 > 0))
 (ld P zt1 (ad b_3 3) I fun (x25 : Int) =>
 ld P zt1 (ad p_7 3) I fun (x26 : Int) =>
 ld P zt1 (ad p_7 2) I fun (x27 : Int) =>
 mif ((w64 (x25 - x26)) == x27)
 (mif ((w64 (x25 - x26)) == x27)
 (R (0, false, 0, ()))
 (zf1y_3 R))
 (ld P zt1 (ad p_7 3) I fun (x28 : Int) =>
 mif (decide (x28 ≤ 0))
 (ld P zt1 (ad b_3 3) I fun (x29 : Int) =>
 mif (x29 == 0)
 (R (0, false, 0, ()))
 (zf1y_3 R))
 (zf1y_3 R)))
 (ld P zt1 (ad p_7 3) I fun (x30 : Int) =>
 mif (decide (x30 ≤ 0))
 (ld P zt1 (ad b_3 3) I fun (x31 : Int) =>
 mif (x31 == 0)
 (R (0, false, 0, ()))
 (zf1y_3 R))
 (zf1y_3 R))))
 (ld P zt1 (ad p_7 3) I fun (x32 : Int) =>
 mif (decide (x32 > 0))
 (ld P zt1 (ad b_3 3) I fun (x33 : Int) =>
 ld P zt1 (ad p_7 3) I fun (x34 : Int) =>
 ld P zt1 (ad p_7 2) I fun (x35 : Int) =>
 mif ((w64 (x33 - x34)) == x35)
 (mif ((w64 (x33 - x34)) == x35)
 (R (0, false, 0, ()))
 (zf1y_3 R))
 (ld P zt1 (ad p_7 3) I fun (x36 : Int) =>
 mif (decide (x36 ≤ 0))
 (ld P zt1 (ad b_3 3) I fun (x37 : Int) =>
 mif (x37 == 0)
 (R (0, false, 0, ()))
 (zf1y_3 R))
 (zf1y_3 R)))
 (ld P zt1 (ad p_7 3) I fun (x38 : Int) =>
 mif (decide (x38 ≤ 0))
 (ld P zt1 (ad b_3 3) I fun (x39 : Int) =>
 mif (x39 == 0)
 (R (0, false, 0, ()))
 (zf1y_3 R))
 (zf1y_3 R))))
 (ld P zt1 (ad p_7 3) I fun (x40 : Int) =>
 mif (decide (x40 > 0))
 (ld P zt1 (ad b_3 3) I fun (x41 : Int) =>
 ld P zt1 (ad p_7 3) I fun (x42 : Int) =>
 ld P zt1 (ad p_7 2) I fun (x43 : Int) =>
 mif ((w64 (x41 - x42)) == x43)
 (mif ((w64 (x41 - x42)) == x43)
 (R (0, false, 0, ()))
 (zf1y_3 R))
 (ld P zt1 (ad p_7 3) I fun (x44 : Int) =>
 mif (decide (x44 ≤ 0))
 (ld P zt1 (ad b_3 3) I fun (x45 : Int) =>
 mif (x45 == 0)
 (R (0, false, 0, ()))
 (zf1y_3 R))
 (zf1y_3 R)))
 (ld P zt1 (ad p_7 3) I fun (x46 : Int) =>
 mif (decide (x46 ≤ 0))
 (ld P zt1 (ad b_3 3) I fun (x47 : Int) =>
 mif (x47 == 0)
 (R (0, false, 0, ()))
 (zf1y_3 R))
 (zf1y_3 R)))
def zf1y_1 (R : (Int × Bool × Int × Unit) → World → Prop) (b_3 : Addr) (p_7 : Addr) : World → Prop :=
 ld P zt1 (ad b_3 2) I fun (x12 : Int) =>
 ld P zt1 (ad p_7 1) I fun (x13 : Int) =>
 mif (decide (x12 < x13))
 (R (0, false, 8, ()))
 (ld P zt1 (ad b_3 2) I fun (x14 : Int) =>
 ld P zt1 (ad p_7 1) I fun (x15 : Int) =>
 mif (decide (x14 > x15))
 (ld P zt1 (ad b_3 1) I fun (x16 : Int) =>
 ld P zt1 (ad b_3 2) I fun (x17 : Int) =>
 sto P zt18 p_7 zkd (x16, x17, 0, 0, 0, ()) <|
 zf1y_2 R b_3 p_7)
 (zf1y_2 R b_3 p_7))
def zf1y_0 (R : (Int × Bool × Int × Unit) → World → Prop) (l_0 : Sl) (b_1 : zT1) : World → Prop :=
 bx P ztj zk1 b_1 fun a1 =>
 ld P ztj a1 zk1 fun (x2 : zT1) =>
 mcall P n_zf3a [(KV zk1 x2)] I fun (x3 : Int) =>
 mif (x3 != 0)
 (R (0, false, 1, ()))
 (ld P zt1 a1 I fun (x4 : Int) =>
 mif (decide (x4 > 2))
 (R (0, false, 1, ()))
 (ld P zt1 (ad a1 1) I fun (x5 : Int) =>
 mif (x5 == 0)
 (R (0, false, 0, ()))
 (ld P zt1 (ad a1 1) I fun (x6 : Int) =>
 alo P zt18 fun a7 =>
 sto P zt18 a7 zkd (x6, 0, 0, 0, 0, ()) <|
 ld P zt1 (ad a1 1) I fun (x8 : Int) =>
 mcall P n_zf3e [(Sl.v l_0), (.int .i64 x8)] (.tup [I, .b]) fun (x9 : Int × Bool × Unit) =>
 mif x9.2.1
 (ixa P ztt (Sl.v l_0) x9.1 fun x10 =>
 ld P zt18 x10 zkd fun (x11 : zTd) =>
 sto P zt18 a7 zkd x11 <|
 zf1y_1 R a1 a7)
 (zf1y_1 R a1 a7))))
theorem zf1y_3_ok (R : (Int × Bool × Int × Unit) → World → Prop) (x : Unit) (w : World) (h : zf1y_3 R w) : WPC P 94 [] (Code.at zf1y_B [.snd, .snd, .snd, .snd, .snd, .snd, .snd, .snd]) (zf1y_q1 R) (mkE 94 zf1y_l4 x) w :=
  pc_end h
theorem zf1y_2_ok (R : (Int × Bool × Int × Unit) → World → Prop) (x : Addr × Addr × Unit) (w : World) (h : zf1y_2 R x.1 x.2.1 w) : WPC P 94 [] (Code.at zf1y_B [.snd, .snd, .snd, .snd, .snd, .snd, .snd]) (zf1y_q1 R) (mkE 94 zf1y_l3 x) w :=
  pc_cut (l := zf1y_l4) 1 (zf1y_3_ok R) h
theorem zf1y_1_ok (R : (Int × Bool × Int × Unit) → World → Prop) (x : Addr × Addr × Unit) (w : World) (h : zf1y_1 R x.1 x.2.1 w) : WPC P 94 [] (Code.at zf1y_B [.snd, .snd, .snd, .snd, .snd]) (zf1y_q1 R) (mkE 94 zf1y_l2 x) w :=
  pc_cut (l := zf1y_l3) 2 (zf1y_2_ok R) h
theorem zf1y_0_ok (R : (Int × Bool × Int × Unit) → World → Prop) (x : Sl × zT1 × Unit) (w : World) (h : zf1y_0 R x.1 x.2.1 w) : WPC P 94 [] (Code.at zf1y_B []) (zf1y_q1 R) (mkE 94 zf1y_l1 x) w :=
  pc_cut (l := zf1y_l2) 5 (zf1y_1_ok R) h
theorem zf1y_call (R : (Int × Bool × Int × Unit) → World → Prop) (l_0 : Sl) (b_1 : zT1) (w : World) (h : zf1y_0 R l_0 b_1 w) : mcall P n_zf1y [(Sl.v l_0), (KV zk1 b_1)] (.tup [I, .b, I]) R w :=
  pc_top (l := zf1y_l1) (c := zf1y_B) Tryz.func73 (zf1y_0_ok R) h
noncomputable abbrev zf1z_B : Code := (Tryz.f74.body).getD .skip
abbrev zf1z_q1 (R : (Int × Int × Unit) → World → Prop) := (topQ P [.tmp 4, .tmp 5] (.tup [I, I]) R)
abbrev zf1z_l1 : Slots := [(0, .p), (1, zk1)]
def zf1z_0 (R : (Int × Int × Unit) → World → Prop) (p_0 : Option Addr) (b_1 : zT1) : World → Prop :=
 bx P ztj zk1 b_1 fun a1 =>
 ld P ztj a1 zk1 fun (x2 : zT1) =>
 mcall P n_zf3f [(KV zk1 x2)] (.tup [.s, I]) fun (x3 : Bs × Int × Unit) =>
 mif (x3.2.1 != 0)
 (R (0, x3.2.1, ()))
 (mdraw <|
 mnil p_0 fun a4 =>
 ld P zts a4 .p fun (x5 : Option Addr) =>
 ld P ztj a1 zk1 fun (x6 : zT1) =>
 mcall P n_zf1u [(KV zk1 x6)] I fun (x7 : Int) =>
 mst P (Instr.loadAt zts (.pointer (some a4))) (.pointer x5) <|
 bsl P zt1h zke [(x7, x3.1, ())] fun x8 =>
 mst P (Instr.loadAt zts (.pointer (some a4))) (.pointer x5) <|
 mcall P n_zf3g [(.pointer x5), (Sl.v x8)] (.tup [I, I]) fun (x9 : Int × Int × Unit) =>
 mif (x9.2.1 != 0)
 (R (0, x9.2.1, ()))
 (mnil p_0 fun a10 =>
 ld P zts a10 .p fun (x11 : Option Addr) =>
 mcall P n_zf3h [(.pointer x11)] I fun (x12 : Int) =>
 mif (x12 != 0)
 (R (0, x12, ()))
 (ld P ztj a1 zk1 fun (x13 : zT1) =>
 mcall P n_zf1v [(.pointer p_0), (KV zk1 x13), (.int .i64 x9.1)] (.tup []) fun (x14 : Unit) =>
 R (x9.1, 0, ()))))
theorem zf1z_0_ok (R : (Int × Int × Unit) → World → Prop) (x : Option Addr × zT1 × Unit) (w : World) (h : zf1z_0 R x.1 x.2.1 w) : WPC P 47 [] (Code.at zf1z_B []) (zf1z_q1 R) (mkE 47 zf1z_l1 x) w :=
  pc_end h
theorem zf1z_call (R : (Int × Int × Unit) → World → Prop) (p_0 : Option Addr) (b_1 : zT1) (w : World) (h : zf1z_0 R p_0 b_1 w) : mcall P n_zf1z [(.pointer p_0), (KV zk1 b_1)] (.tup [I, I]) R w :=
  pc_top (l := zf1z_l1) (c := zf1z_B) Tryz.func74 (zf1z_0_ok R) h
noncomputable abbrev zf20_B : Code := (Tryz.f75.body).getD .skip
abbrev zf20_q1 (R : Int → World → Prop) := (topQ P [.tmp 2] I R)
abbrev zf20_l1 : Slots := [(0, .p)]
def zf20_0 (R : Int → World → Prop) (p_0 : Option Addr) : World → Prop :=
 mcall P n_zf1w [(.pointer p_0)] .b fun (x1 : Bool) =>
 mif x1
 (R 0)
 (mnil p_0 fun a2 =>
 ld P ztu (ad a2 2) .sl fun (x3 : Sl) =>
 mif (decide ((x3.len : Int) > 0))
 (mnil p_0 fun a4 =>
 ld P ztu (ad a4 2) .sl fun (x5 : Sl) =>
 ixa P ztu (Sl.v x5) 0 fun x6 =>
 ld P zt1 (ad x6 1) I fun (x7 : Int) =>
 R x7)
 (mnil p_0 fun a8 =>
 ld P zts a8 .p fun (x9 : Option Addr) =>
 mcall P n_zf1r [(.pointer x9)] I fun (x10 : Int) =>
 R x10))
theorem zf20_0_ok (R : Int → World → Prop) (x : Option Addr × Unit) (w : World) (h : zf20_0 R x.1 w) : WPC P 23 [] (Code.at zf20_B []) (zf20_q1 R) (mkE 23 zf20_l1 x) w :=
  pc_end h
theorem zf20_call (R : Int → World → Prop) (p_0 : Option Addr) (w : World) (h : zf20_0 R p_0 w) : mcall P n_zf20 [(.pointer p_0)] I R w :=
  pc_top (l := zf20_l1) (c := zf20_B) Tryz.func75 (zf20_0_ok R) h
noncomputable abbrev zf22_B : Code := (Tryz.f77.body).getD .skip
abbrev zf22_q1 (R : Int → World → Prop) := (topQ P [.tmp 2] I R)
abbrev zf22_l1 : Slots := [(0, zk0)]
def zf22_0 (R : Int → World → Prop) (g_0 : zT0) : World → Prop :=
 bx P zt5 zk0 g_0 fun a1 =>
 ld P zt1 a1 I fun (x2 : Int) =>
 mif (decide (x2 < 1))
 (R 1)
 (ld P zt1 a1 I fun (x3 : Int) =>
 mif (decide (x3 > 1048576))
 (R 1)
 (ld P zt1 (ad a1 1) I fun (x4 : Int) =>
 mif (decide (x4 < 1))
 (R 1)
 (ld P zt1 (ad a1 1) I fun (x5 : Int) =>
 ld P zt1 a1 I fun (x6 : Int) =>
 mif (decide (x5 > x6))
 (R 1)
 (ld P zt1 a1 I fun (x7 : Int) =>
 ld P zt1 (ad a1 1) I fun (x8 : Int) =>
 mdz x8 <|
 mif ((x7.tmod x8) != 0)
 (R 1)
 (ld P zt1 a1 I fun (x9 : Int) =>
 ld P zt1 (ad a1 1) I fun (x10 : Int) =>
 mdz x10 <|
 mif (decide ((w64 (x9.tdiv x10)) > 8))
 (R 1)
 (ld P zt1 (ad a1 2) I fun (x11 : Int) =>
 mif (decide (x11 < 0))
 (R 1)
 (ld P zt1 (ad a1 2) I fun (x12 : Int) =>
 mif (decide (x12 > 1048576))
 (R 1)
 (R 0))))))))
theorem zf22_0_ok (R : Int → World → Prop) (x : zT0 × Unit) (w : World) (h : zf22_0 R x.1 w) : WPC P 49 [] (Code.at zf22_B []) (zf22_q1 R) (mkE 49 zf22_l1 x) w :=
  pc_end h
theorem zf22_call (R : Int → World → Prop) (g_0 : zT0) (w : World) (h : zf22_0 R g_0 w) : mcall P n_zf22 [(KV zk0 g_0)] I R w :=
  pc_top (l := zf22_l1) (c := zf22_B) Tryz.func77 (zf22_0_ok R) h
noncomputable abbrev zf23_B : Code := (Tryz.f78.body).getD .skip
abbrev zf23_q1 (R : Int → World → Prop) := (topQ P [.tmp 2] I R)
abbrev zf23_l1 : Slots := [(0, zk5)]
abbrev zf23_l2 : Slots := [(1, .ad), (3, I), (4, .b)]
abbrev zf23_l3 : Slots := [(1, .ad), (3, I), (4, .b)]
def zf23_2 (R : Int → World → Prop) (a_1 : Addr) (left_3 : Int) (ok_4 : Bool) : World → Prop :=
 mif (!ok_4)
 (R 1)
 (mif (left_3 != 0)
 (R 1)
 (ld P zt1 (ad a_1 8) I fun (x7 : Int) =>
 ld P zt1 a_1 I fun (x8 : Int) =>
 mcall P n_zf3i [(.int .i64 x7), (.int .i64 x8)] (.tup [I, .b]) fun (x9 : Int × Bool × Unit) =>
 ld P zt1 (ad a_1 9) I fun (x10 : Int) =>
 ld P zt1 a_1 I fun (x11 : Int) =>
 mcall P n_zf3i [(.int .i64 x10), (.int .i64 x11)] (.tup [I, .b]) fun (x12 : Int × Bool × Unit) =>
 mif (!x9.2.1)
 (R 1)
 (mif (!x12.2.1)
 (R 1)
 (ld P zt1 a_1 I fun (x13 : Int) =>
 mif (decide ((w64 (x9.1 + x12.1)) > x13))
 (R 1)
 (R 0)))))
abbrev zf23_q2 (R : Int → World → Prop) := (thenQ (fun env => getE env zf23_l3 fun (x : Addr × Int × Bool × Unit) => zf23_2 R x.1 x.2.1 x.2.2.1) (zf23_q1 R))
abbrev zf23_l4 : Slots := [(1, .ad), (3, I), (4, .b)]
abbrev zf23_l5 : Slots := [(3, I), (4, .b), (30, I)]
abbrev zf23_l6 : Slots := [(1, .ad), (29, zk4)]
abbrev zf23_q3 (c1 : (Int × Bool × Int × Unit) → (Addr × zT4 × Unit) → World → Prop) (R : Int → World → Prop) := (thenQ (fun env => getE env zf23_l5 fun (s : Int × Bool × Int × Unit) => getE env zf23_l6 (c1 s)) (blockQ 0 ((zf23_q2 R) .normal) (zf23_q2 R)))
abbrev zf23_l7 : Slots := [(1, .ad), (3, I), (4, .b), (29, zk4), (30, I)]
def zf23_6 (c1 : (Int × Bool × Int × Unit) → (Addr × zT4 × Unit) → World → Prop) (R : Int → World → Prop) (a_1 : Addr) (left_3 : Int) (ok_4 : Bool) (v29 : zT4) (v30 : Int) : World → Prop :=
 c1 (left_3, ok_4, w64 (v30 + 1), ()) (a_1, v29, ())
def zf23_5 (c1 : (Int × Bool × Int × Unit) → (Addr × zT4 × Unit) → World → Prop) (R : Int → World → Prop) (left_3 : Int) (ok_4 : Bool) (v30 : Int) (a_1 : Addr) (v29 : zT4) : World → Prop :=
 mif (decide (v30 < 4))
 (mrd P (Instr.index ztf (.agg #[.int .i64 v29.1, .int .i64 v29.2.1, .int .i64 v29.2.2.1, .int .i64 v29.2.2.2.1]) (.int .i64 v30)) I fun (x15 : Int) =>
 mif ok_4
 (mif (decide (x15 ≥ 0))
 (zf23_6 c1 R a_1 (w64 (left_3 - x15)) (decide (x15 ≤ left_3)) v29 v30)
 (zf23_6 c1 R a_1 (w64 (left_3 - x15)) false v29 v30))
 (zf23_6 c1 R a_1 (w64 (left_3 - x15)) false v29 v30))
 (zf23_2 R a_1 left_3 ok_4)
def zf23_4 (R : Int → World → Prop) (left_3 : Int) (ok_4 : Bool) (v30 : Int) (a_1 : Addr) (v29 : zT4) : World → Prop :=
 W.Loop (a_1, v29, ()) (fun (c1 : (Int × Bool × Int × Unit) → (Addr × zT4 × Unit) → World → Prop) (s : Int × Bool × Int × Unit) => zf23_5 c1 R s.1 s.2.1 s.2.2.1 a_1 v29) (left_3, ok_4, v30, ())
def zf23_3 (R : Int → World → Prop) (a_1 : Addr) (left_3 : Int) (ok_4 : Bool) : World → Prop :=
 ld P ztf (ad a_1 4) zk4 fun (x14 : zT4) =>
 zf23_4 R left_3 ok_4 0 a_1 x14
def zf23_1 (R : Int → World → Prop) (a_1 : Addr) (left_3 : Int) (ok_4 : Bool) : World → Prop :=
 zf23_3 R a_1 left_3 ok_4
def zf23_0 (R : Int → World → Prop) (a_0 : zT5) : World → Prop :=
 bx P ztg zk5 a_0 fun a1 =>
 ld P zt1 a1 I fun (x2 : Int) =>
 ld P zt1 a1 I fun (x3 : Int) =>
 mif (decide (x3 ≥ 1))
 (ld P zt1 a1 I fun (x4 : Int) =>
 mif (decide (x4 ≤ 1099511627776))
 (ld P zt1 (ad a1 2) I fun (x5 : Int) =>
 ld P zt1 (ad a1 3) I fun (x6 : Int) =>
 zf23_1 R a1 x2 (decide (x5 ≤ x6)))
 (zf23_1 R a1 x2 false))
 (zf23_1 R a1 x2 false)
theorem zf23_2_ok (R : Int → World → Prop) (x : Addr × Int × Bool × Unit) (w : World) (h : zf23_2 R x.1 x.2.1 x.2.2.1 w) : WPC P 83 [] (Code.at zf23_B [.snd, .snd, .snd, .snd]) (zf23_q1 R) (mkE 83 zf23_l3 x) w :=
  pc_end h
theorem zf23_6_ok (c1 : (Int × Bool × Int × Unit) → (Addr × zT4 × Unit) → World → Prop) (R : Int → World → Prop) (x : Addr × Int × Bool × zT4 × Int × Unit) (w : World) (h : zf23_6 c1 R x.1 x.2.1 x.2.2.1 x.2.2.2.1 x.2.2.2.2.1 w) : WPC P 83 [] (Code.at zf23_B [.snd, .snd, .snd, .fst, .snd, .blk, .blk, .snd, .snd, .snd]) (zf23_q3 c1 R) (mkE 83 zf23_l7 x) w :=
  pc_end h
theorem zf23_5_ok (c1 : (Int × Bool × Int × Unit) → (Addr × zT4 × Unit) → World → Prop) (R : Int → World → Prop) (x : Int × Bool × Int × Unit) (y : Addr × zT4 × Unit) (w : World) (h : zf23_5 c1 R x.1 x.2.1 x.2.2.1 y.1 y.2.1 w) : WPC P 83 [] (Code.at zf23_B [.snd, .snd, .snd, .fst, .snd, .blk, .blk]) (zf23_q3 c1 R) (mkE2 83 zf23_l5 zf23_l6 x y) w :=
  pc_cut (l := zf23_l7) 3 (zf23_6_ok c1 R) h
theorem zf23_4_ok (R : Int → World → Prop) (x : Int × Bool × Int × Unit) (y : Addr × zT4 × Unit) (w : World) (h : zf23_4 R x.1 x.2.1 x.2.2.1 y.1 y.2.1 w) : WPC P 83 [] (Code.at zf23_B [.snd, .snd, .snd, .fst, .snd]) (zf23_q2 R) (mkE2 83 zf23_l5 zf23_l6 x y) w :=
  pc_loopE (l := zf23_l5) (l' := zf23_l6) (id := 0) (b := (Code.at zf23_B [.snd, .snd, .snd, .fst, .snd, .blk, .blk])) (fun c1 s => zf23_5_ok c1 R s y) h
theorem zf23_3_ok (R : Int → World → Prop) (x : Addr × Int × Bool × Unit) (w : World) (h : zf23_3 R x.1 x.2.1 x.2.2.1 w) : WPC P 83 [] (Code.at zf23_B [.snd, .snd, .snd, .fst]) (zf23_q2 R) (mkE 83 zf23_l4 x) w :=
  pc_cut2 (l := zf23_l5) (l' := zf23_l6) 1 (zf23_4_ok R) h
theorem zf23_1_ok (R : Int → World → Prop) (x : Addr × Int × Bool × Unit) (w : World) (h : zf23_1 R x.1 x.2.1 x.2.2.1 w) : WPC P 83 [] (Code.at zf23_B [.snd, .snd, .snd]) (zf23_q1 R) (mkE 83 zf23_l2 x) w :=
  pc_seq (l := zf23_l3) (a := (Code.at zf23_B [.snd, .snd, .snd, .fst])) (b := (Code.at zf23_B [.snd, .snd, .snd, .snd])) (pc_cut (l := zf23_l4) (c := (Code.at zf23_B [.snd, .snd, .snd, .fst])) 0 (zf23_3_ok R) h) (zf23_2_ok R)
theorem zf23_0_ok (R : Int → World → Prop) (x : zT5 × Unit) (w : World) (h : zf23_0 R x.1 w) : WPC P 83 [] (Code.at zf23_B []) (zf23_q1 R) (mkE 83 zf23_l1 x) w :=
  pc_cut (l := zf23_l2) 3 (zf23_1_ok R) h
theorem zf23_call (R : Int → World → Prop) (a_0 : zT5) (w : World) (h : zf23_0 R a_0 w) : mcall P n_zf23 [(KV zk5 a_0)] I R w :=
  pc_top (l := zf23_l1) (c := zf23_B) Tryz.func78 (zf23_0_ok R) h
noncomputable abbrev zf24_B : Code := (Tryz.f79.body).getD .skip
abbrev zf24_q1 (R : Int → World → Prop) := (topQ P [.tmp 4] I R)
abbrev zf24_l1 : Slots := [(0, zk6), (1, zk6)]
def zf24_0 (R : Int → World → Prop) (c_0 : zT6) (at_1 : zT6) : World → Prop :=
 bx P zth zk6 c_0 fun a1 =>
 bx P zth zk6 at_1 fun a2 =>
 mdraw <|
 ld P zt1 (ad a1 1) I fun (x3 : Int) =>
 ld P zt1 (ad a2 1) I fun (x4 : Int) =>
 ld P zt1 a1 I fun (x5 : Int) =>
 ld P zt1 a2 I fun (x6 : Int) =>
 mcall P n_zf3k [(.int .i64 x3), (.int .i64 x4)] I fun (x7 : Int) =>
 mst P (Instr.loadAt zt1 (.pointer (some a2))) (.int .i64 x6) <|
 mst P (Instr.loadAt zt1 (.pointer (some a1))) (.int .i64 x5) <|
 mcall P n_zf3k [(.int .i64 x5), (.int .i64 x6)] I fun (x8 : Int) =>
 bsl P zt7 I [x7, x8] fun x9 =>
 mcall P n_zf3j [(Sl.v x9)] I fun (x10 : Int) =>
 R x10
theorem zf24_0_ok (R : Int → World → Prop) (x : zT6 × zT6 × Unit) (w : World) (h : zf24_0 R x.1 x.2.1 w) : WPC P 17 [] (Code.at zf24_B []) (zf24_q1 R) (mkE 17 zf24_l1 x) w :=
  pc_end h
theorem zf24_call (R : Int → World → Prop) (c_0 : zT6) (at_1 : zT6) (w : World) (h : zf24_0 R c_0 at_1 w) : mcall P n_zf24 [(KV zk6 c_0), (KV zk6 at_1)] I R w :=
  pc_top (l := zf24_l1) (c := zf24_B) Tryz.func79 (zf24_0_ok R) h
noncomputable abbrev zf25_B : Code := (Tryz.f80.body).getD .skip
abbrev zf25_q1 (R : Bool → World → Prop) := (topQ P [.tmp 4] .b R)
abbrev zf25_l1 : Slots := [(0, .sl), (1, .v)]
def zf25_0 (R : Bool → World → Prop) (s_0 : Sl) (f_1 : Value) : World → Prop :=
 mcall P n_zf28 [(Sl.v s_0), f_1] I fun (x1 : Int) =>
 R (decide (x1 ≥ 0))
theorem zf25_0_ok (R : Bool → World → Prop) (x : Sl × Value × Unit) (w : World) (h : zf25_0 R x.1 x.2.1 w) : WPC P 9 [] (Code.at zf25_B []) (zf25_q1 R) (mkE 9 zf25_l1 x) w :=
  pc_end h
theorem zf25_call (R : Bool → World → Prop) (s_0 : Sl) (f_1 : Value) (w : World) (h : zf25_0 R s_0 f_1 w) : mcall P n_zf25 [(Sl.v s_0), f_1] .b R w :=
  pc_top (l := zf25_l1) (c := zf25_B) Tryz.func80 (zf25_0_ok R) h
noncomputable abbrev zf26_B : Code := (Tryz.f81.body).getD .skip
abbrev zf26_q1 (R : Bool → World → Prop) := (topQ P [.tmp 2] .b R)
abbrev zf26_l1 : Slots := [(0, I)]
def zf26_0 (R : Bool → World → Prop) (n_0 : Int) : World → Prop :=
 mif (decide (n_0 < 0))
 (R true)
 (R (decide (n_0 > 1099511627776)))
theorem zf26_0_ok (R : Bool → World → Prop) (x : Int × Unit) (w : World) (h : zf26_0 R x.1 w) : WPC P 9 [] (Code.at zf26_B []) (zf26_q1 R) (mkE 9 zf26_l1 x) w :=
  pc_end h
theorem zf26_call (R : Bool → World → Prop) (n_0 : Int) (w : World) (h : zf26_0 R n_0 w) : mcall P n_zf26 [(.int .i64 n_0)] .b R w :=
  pc_top (l := zf26_l1) (c := zf26_B) Tryz.func81 (zf26_0_ok R) h
noncomputable abbrev zf27_B : Code := (Tryz.f82.body).getD .skip
abbrev zf27_q1 (R : (Int × Bs × Int × Unit) → World → Prop) := (topQ P [.tmp 2, .tmp 3, .tmp 4] (.tup [I, .s, I]) R)
abbrev zf27_l1 : Slots := [(0, .s)]
abbrev zf27_l2 : Slots := [(0, .s)]
abbrev zf27_l3 : Slots := [(5, (.i .u64)), (6, I)]
abbrev zf27_l4 : Slots := [(0, .s)]
abbrev zf27_q2 (c1 : (Int × Int × Unit) → (Bs × Unit) → World → Prop) (R : (Int × Bs × Int × Unit) → World → Prop) := (gotoQ 0 (fun env => getE env zf27_l3 fun (s : Int × Int × Unit) => getE env zf27_l4 (c1 s)) (zf27_q1 R))
abbrev zf27_l5 : Slots := [(0, .s), (5, (.i .u64)), (6, I)]
def zf27_3 (c1 : (Int × Int × Unit) → (Bs × Unit) → World → Prop) (R : (Int × Bs × Int × Unit) → World → Prop) (s_0 : Bs) (u_5 : Int) (k_6 : Int) : World → Prop :=
 mdraw <|
 sls P zt4 s_0 (some k_6) none fun x2 =>
 R (ixor .i64 (w64 (ishr .u64 u_5 1)) (w64 (0 - (w64 (iand .u64 u_5 1)))), x2, 0, ())
def zf27_2 (c1 : (Int × Int × Unit) → (Bs × Unit) → World → Prop) (R : (Int × Bs × Int × Unit) → World → Prop) (u_5 : Int) (k_6 : Int) (s_0 : Bs) : World → Prop :=
 mif (k_6 == (s_0.length : Int))
 (R (0, [], 2, ()))
 (mif (k_6 == 10)
 (R (0, [], 2, ()))
 (ixs P zt4 s_0 k_6 fun x1 =>
 mng (w64 (7 * k_6)) <|
 mif (decide (x1 ≥ 128))
 (c1 (ior .u64 u_5 (ishl .u64 (wr64 (iand .u8 x1 127)) (w64 (7 * k_6))), w64 (k_6 + 1), ()) (s_0, ()))
 (mif (decide ((w64 (k_6 + 1)) > 1))
 (mif (x1 == 0)
 (R (0, [], 2, ()))
 (mif ((w64 (k_6 + 1)) == 10)
 (mif (decide (x1 > 1))
 (R (0, [], 2, ()))
 (zf27_3 c1 R s_0 (ior .u64 u_5 (ishl .u64 (wr64 (iand .u8 x1 127)) (w64 (7 * k_6)))) (w64 (k_6 + 1))))
 (zf27_3 c1 R s_0 (ior .u64 u_5 (ishl .u64 (wr64 (iand .u8 x1 127)) (w64 (7 * k_6)))) (w64 (k_6 + 1)))))
 (mif ((w64 (k_6 + 1)) == 10)
 (mif (decide (x1 > 1))
 (R (0, [], 2, ()))
 (zf27_3 c1 R s_0 (ior .u64 u_5 (ishl .u64 (wr64 (iand .u8 x1 127)) (w64 (7 * k_6)))) (w64 (k_6 + 1))))
 (zf27_3 c1 R s_0 (ior .u64 u_5 (ishl .u64 (wr64 (iand .u8 x1 127)) (w64 (7 * k_6)))) (w64 (k_6 + 1)))))))
def zf27_1 (R : (Int × Bs × Int × Unit) → World → Prop) (s_0 : Bs) : World → Prop :=
 W.Loop (s_0, ()) (fun (c1 : (Int × Int × Unit) → (Bs × Unit) → World → Prop) (s : Int × Int × Unit) => zf27_2 c1 R s.1 s.2.1 s_0) (0, 0, ())
def zf27_0 (R : (Int × Bs × Int × Unit) → World → Prop) (s_0 : Bs) : World → Prop :=
 zf27_1 R s_0
theorem zf27_3_ok (c1 : (Int × Int × Unit) → (Bs × Unit) → World → Prop) (R : (Int × Bs × Int × Unit) → World → Prop) (x : Bs × Int × Int × Unit) (w : World) (h : zf27_3 c1 R x.1 x.2.1 x.2.2.1 w) : WPC P 56 [] (Code.at zf27_B [.snd, .blk, .snd, .snd, .snd, .snd, .snd, .snd, .snd, .snd, .snd]) (zf27_q2 c1 R) (mkE 56 zf27_l5 x) w :=
  pc_end h
theorem zf27_2_ok (c1 : (Int × Int × Unit) → (Bs × Unit) → World → Prop) (R : (Int × Bs × Int × Unit) → World → Prop) (x : Int × Int × Unit) (y : Bs × Unit) (w : World) (h : zf27_2 c1 R x.1 x.2.1 y.1 w) : WPC P 56 [] (Code.at zf27_B [.snd, .blk, .snd, .snd, .snd]) (zf27_q2 c1 R) (mkE2 56 zf27_l3 zf27_l4 x y) w :=
  pc_cut (l := zf27_l5) 6 (zf27_3_ok c1 R) h
theorem zf27_1_ok (R : (Int × Bs × Int × Unit) → World → Prop) (x : Bs × Unit) (w : World) (h : zf27_1 R x.1 w) : WPC P 56 [] (Code.at zf27_B [.snd]) (zf27_q1 R) (mkE 56 zf27_l2 x) w :=
  pc_scope (l := zf27_l3) (l' := zf27_l4) (c := (Code.at zf27_B [.snd, .blk])) (b := .seq .skip (Code.at zf27_B [.snd, .blk, .snd, .snd, .snd])) (id := 0) (m := 2) (body := fun (y : Bs × Unit) (c1 : (Int × Int × Unit) → (Bs × Unit) → World → Prop) (s : Int × Int × Unit) => zf27_2 c1 R s.1 s.2.1 y.1) (c' := (Code.at zf27_B [.snd, .blk, .snd, .snd])) hmix (by kernel_rfl) (by kernel_rfl) (by kernel_rfl) (mkE_len ..) (fun y c1 s w h => pc_cut2 (l := zf27_l3) (l' := zf27_l4) (c := (.seq .skip (Code.at zf27_B [.snd, .blk, .snd, .snd, .snd]))) (c' := (Code.at zf27_B [.snd, .blk, .snd, .snd, .snd])) 1 (zf27_2_ok c1 R) h) (fun y c1 s w h => pc_cut2 (l := zf27_l3) (l' := zf27_l4) (c := (Code.at zf27_B [.snd, .blk, .snd, .snd])) (c' := (Code.at zf27_B [.snd, .blk, .snd, .snd, .snd])) 1 (zf27_2_ok c1 R) h) (by kernel_rfl) h
theorem zf27_0_ok (R : (Int × Bs × Int × Unit) → World → Prop) (x : Bs × Unit) (w : World) (h : zf27_0 R x.1 w) : WPC P 56 [] (Code.at zf27_B []) (zf27_q1 R) (mkE 56 zf27_l1 x) w :=
  pc_cut (l := zf27_l2) 1 (zf27_1_ok R) h
theorem zf27_call (R : (Int × Bs × Int × Unit) → World → Prop) (s_0 : Bs) (w : World) (h : zf27_0 R s_0 w) : mcall P n_zf27 [(.string ⟨s_0.toArray⟩)] (.tup [I, .s, I]) R w :=
  pc_top (l := zf27_l1) (c := zf27_B) Tryz.func82 (zf27_0_ok R) h
noncomputable abbrev zf28_B : Code := (Tryz.f83.body).getD .skip
abbrev zf28_q1 (R : Int → World → Prop) := (topQ P [.tmp 4] I R)
abbrev zf28_l1 : Slots := [(0, .sl), (1, .v)]
abbrev zf28_l2 : Slots := [(0, .sl), (1, .v)]
abbrev zf28_l3 : Slots := []
def zf28_2 (R : Int → World → Prop) : World → Prop :=
 R (-1)
abbrev zf28_q2 (R : Int → World → Prop) := (thenQ (fun env => getE env zf28_l3 fun (x : Unit) => zf28_2 R) (zf28_q1 R))
abbrev zf28_l4 : Slots := [(0, .sl), (1, .v)]
abbrev zf28_l5 : Slots := [(8, I)]
abbrev zf28_l6 : Slots := [(0, .sl), (1, .v), (7, I)]
abbrev zf28_q3 (c1 : (Int × Unit) → (Sl × Value × Int × Unit) → World → Prop) (R : Int → World → Prop) := (thenQ (fun env => getE env zf28_l5 fun (s : Int × Unit) => getE env zf28_l6 (c1 s)) (blockQ 0 ((zf28_q2 R) .normal) (zf28_q2 R)))
def zf28_5 (c1 : (Int × Unit) → (Sl × Value × Int × Unit) → World → Prop) (R : Int → World → Prop) (v8 : Int) (s_0 : Sl) (f_1 : Value) (v7 : Int) : World → Prop :=
 mif (decide (v8 < v7))
 (ixa P zt7 (Sl.v s_0) v8 fun x1 =>
 ld P zt1 x1 I fun (x2 : Int) =>
 mdyn P f_1 [.int .i64 x2] .b fun (x3 : Bool) =>
 mif x3
 (R v8)
 (c1 (w64 (v8 + 1), ()) (s_0, f_1, v7, ())))
 (zf28_2 R)
def zf28_4 (R : Int → World → Prop) (v8 : Int) (s_0 : Sl) (f_1 : Value) (v7 : Int) : World → Prop :=
 W.Loop (s_0, f_1, v7, ()) (fun (c1 : (Int × Unit) → (Sl × Value × Int × Unit) → World → Prop) (s : Int × Unit) => zf28_5 c1 R s.1 s_0 f_1 v7) (v8, ())
def zf28_3 (R : Int → World → Prop) (s_0 : Sl) (f_1 : Value) : World → Prop :=
 zf28_4 R 0 s_0 f_1 (s_0.len : Int)
def zf28_1 (R : Int → World → Prop) (s_0 : Sl) (f_1 : Value) : World → Prop :=
 zf28_3 R s_0 f_1
def zf28_0 (R : Int → World → Prop) (s_0 : Sl) (f_1 : Value) : World → Prop :=
 zf28_1 R s_0 f_1
theorem zf28_2_ok (R : Int → World → Prop) (x : Unit) (w : World) (h : zf28_2 R w) : WPC P 19 [] (Code.at zf28_B [.snd, .snd]) (zf28_q1 R) (mkE 19 zf28_l3 x) w :=
  pc_end h
theorem zf28_5_ok (c1 : (Int × Unit) → (Sl × Value × Int × Unit) → World → Prop) (R : Int → World → Prop) (x : Int × Unit) (y : Sl × Value × Int × Unit) (w : World) (h : zf28_5 c1 R x.1 y.1 y.2.1 y.2.2.1 w) : WPC P 19 [] (Code.at zf28_B [.snd, .fst, .snd, .blk, .blk]) (zf28_q3 c1 R) (mkE2 19 zf28_l5 zf28_l6 x y) w :=
  pc_end h
theorem zf28_4_ok (R : Int → World → Prop) (x : Int × Unit) (y : Sl × Value × Int × Unit) (w : World) (h : zf28_4 R x.1 y.1 y.2.1 y.2.2.1 w) : WPC P 19 [] (Code.at zf28_B [.snd, .fst, .snd]) (zf28_q2 R) (mkE2 19 zf28_l5 zf28_l6 x y) w :=
  pc_loopE (l := zf28_l5) (l' := zf28_l6) (id := 0) (b := (Code.at zf28_B [.snd, .fst, .snd, .blk, .blk])) (fun c1 s => zf28_5_ok c1 R s y) h
theorem zf28_3_ok (R : Int → World → Prop) (x : Sl × Value × Unit) (w : World) (h : zf28_3 R x.1 x.2.1 w) : WPC P 19 [] (Code.at zf28_B [.snd, .fst]) (zf28_q2 R) (mkE 19 zf28_l4 x) w :=
  pc_cut2 (l := zf28_l5) (l' := zf28_l6) 1 (zf28_4_ok R) h
theorem zf28_1_ok (R : Int → World → Prop) (x : Sl × Value × Unit) (w : World) (h : zf28_1 R x.1 x.2.1 w) : WPC P 19 [] (Code.at zf28_B [.snd]) (zf28_q1 R) (mkE 19 zf28_l2 x) w :=
  pc_seq (l := zf28_l3) (a := (Code.at zf28_B [.snd, .fst])) (b := (Code.at zf28_B [.snd, .snd])) (pc_cut (l := zf28_l4) (c := (Code.at zf28_B [.snd, .fst])) 0 (zf28_3_ok R) h) (zf28_2_ok R)
theorem zf28_0_ok (R : Int → World → Prop) (x : Sl × Value × Unit) (w : World) (h : zf28_0 R x.1 x.2.1 w) : WPC P 19 [] (Code.at zf28_B []) (zf28_q1 R) (mkE 19 zf28_l1 x) w :=
  pc_cut (l := zf28_l2) 1 (zf28_1_ok R) h
theorem zf28_call (R : Int → World → Prop) (s_0 : Sl) (f_1 : Value) (w : World) (h : zf28_0 R s_0 f_1 w) : mcall P n_zf28 [(Sl.v s_0), f_1] I R w :=
  pc_top (l := zf28_l1) (c := zf28_B) Tryz.func83 (zf28_0_ok R) h
noncomputable abbrev zf29_B : Code := (Tryz.f84.body).getD .skip
abbrev zf29_q1 (R : (Int × Bool × Unit) → World → Prop) := (topQ P [.tmp 6, .tmp 7] (.tup [I, .b]) R)
abbrev zf29_l1 : Slots := [(0, .sl), (1, zk6), (2, .v)]
abbrev zf29_l2 : Slots := [(9, I), (10, I)]
abbrev zf29_l3 : Slots := [(0, .sl), (2, .v), (4, .ad), (8, I)]
abbrev zf29_l4 : Slots := [(0, .sl), (2, .v), (4, .ad), (8, I), (9, I)]
def zf29_2 (R : (Int × Bool × Unit) → World → Prop) (x_0 : Sl) (cmp_2 : Value) (target_4 : Addr) (n_8 : Int) (i_9 : Int) : World → Prop :=
 mdraw <|
 mif (decide (i_9 < n_8))
 (ixa P zt8 (Sl.v x_0) i_9 fun x2 =>
 ld P zth x2 zk6 fun (x3 : zT6) =>
 ld P zth target_4 zk6 fun (x4 : zT6) =>
 mdyn P cmp_2 [.agg #[.int .i64 x3.1, .int .i64 x3.2.1, .int .i64 x3.2.2.1.1, .int .i64 x3.2.2.1.2.1, .int .i64 x3.2.2.1.2.2.1, .int .i64 x3.2.2.1.2.2.2.1, .int .i64 x3.2.2.1.2.2.2.2.1.1, .int .i64 x3.2.2.1.2.2.2.2.1.2.1, .int .i64 x3.2.2.1.2.2.2.2.1.2.2.1, .int .i64 x3.2.2.1.2.2.2.2.1.2.2.2.1, .int .i64 x3.2.2.1.2.2.2.2.2.1, .int .i64 x3.2.2.1.2.2.2.2.2.2.1], .agg #[.int .i64 x4.1, .int .i64 x4.2.1, .int .i64 x4.2.2.1.1, .int .i64 x4.2.2.1.2.1, .int .i64 x4.2.2.1.2.2.1, .int .i64 x4.2.2.1.2.2.2.1, .int .i64 x4.2.2.1.2.2.2.2.1.1, .int .i64 x4.2.2.1.2.2.2.2.1.2.1, .int .i64 x4.2.2.1.2.2.2.2.1.2.2.1, .int .i64 x4.2.2.1.2.2.2.2.1.2.2.2.1, .int .i64 x4.2.2.1.2.2.2.2.2.1, .int .i64 x4.2.2.1.2.2.2.2.2.2.1]] I fun (x5 : Int) =>
 R (i_9, x5 == 0, ()))
 (R (i_9, false, ()))
abbrev zf29_q2 (c1 : (Int × Int × Unit) → (Sl × Value × Addr × Int × Unit) → World → Prop) (R : (Int × Bool × Unit) → World → Prop) := (thenQ (fun env => getE env zf29_l2 fun (s : Int × Int × Unit) => getE env zf29_l3 (c1 s)) (blockQ 0 (fun env => getE env zf29_l4 fun (x : Sl × Value × Addr × Int × Int × Unit) => zf29_2 R x.1 x.2.1 x.2.2.1 x.2.2.2.1 x.2.2.2.2.1) (zf29_q1 R)))
def zf29_3 (c1 : (Int × Int × Unit) → (Sl × Value × Addr × Int × Unit) → World → Prop) (R : (Int × Bool × Unit) → World → Prop) (i_9 : Int) (j_10 : Int) (x_0 : Sl) (cmp_2 : Value) (target_4 : Addr) (n_8 : Int) : World → Prop :=
 mif (decide (i_9 < j_10))
 (mdraw <|
 ixa P zt8 (Sl.v x_0) (w64 (ishr .u64 (wr64 (w64 (i_9 + j_10))) 1)) fun x6 =>
 ld P zth x6 zk6 fun (x7 : zT6) =>
 ld P zth target_4 zk6 fun (x8 : zT6) =>
 mdyn P cmp_2 [.agg #[.int .i64 x7.1, .int .i64 x7.2.1, .int .i64 x7.2.2.1.1, .int .i64 x7.2.2.1.2.1, .int .i64 x7.2.2.1.2.2.1, .int .i64 x7.2.2.1.2.2.2.1, .int .i64 x7.2.2.1.2.2.2.2.1.1, .int .i64 x7.2.2.1.2.2.2.2.1.2.1, .int .i64 x7.2.2.1.2.2.2.2.1.2.2.1, .int .i64 x7.2.2.1.2.2.2.2.1.2.2.2.1, .int .i64 x7.2.2.1.2.2.2.2.2.1, .int .i64 x7.2.2.1.2.2.2.2.2.2.1], .agg #[.int .i64 x8.1, .int .i64 x8.2.1, .int .i64 x8.2.2.1.1, .int .i64 x8.2.2.1.2.1, .int .i64 x8.2.2.1.2.2.1, .int .i64 x8.2.2.1.2.2.2.1, .int .i64 x8.2.2.1.2.2.2.2.1.1, .int .i64 x8.2.2.1.2.2.2.2.1.2.1, .int .i64 x8.2.2.1.2.2.2.2.1.2.2.1, .int .i64 x8.2.2.1.2.2.2.2.1.2.2.2.1, .int .i64 x8.2.2.1.2.2.2.2.2.1, .int .i64 x8.2.2.1.2.2.2.2.2.2.1]] I fun (x9 : Int) =>
 mif (decide (x9 < 0))
 (c1 (w64 ((w64 (ishr .u64 (wr64 (w64 (i_9 + j_10))) 1)) + 1), j_10, ()) (x_0, cmp_2, target_4, n_8, ()))
 (c1 (i_9, w64 (ishr .u64 (wr64 (w64 (i_9 + j_10))) 1), ()) (x_0, cmp_2, target_4, n_8, ())))
 (zf29_2 R x_0 cmp_2 target_4 n_8 i_9)
def zf29_1 (R : (Int × Bool × Unit) → World → Prop) (i_9 : Int) (j_10 : Int) (x_0 : Sl) (cmp_2 : Value) (target_4 : Addr) (n_8 : Int) : World → Prop :=
 W.Loop (x_0, cmp_2, target_4, n_8, ()) (fun (c1 : (Int × Int × Unit) → (Sl × Value × Addr × Int × Unit) → World → Prop) (s : Int × Int × Unit) => zf29_3 c1 R s.1 s.2.1 x_0 cmp_2 target_4 n_8) (i_9, j_10, ())
def zf29_0 (R : (Int × Bool × Unit) → World → Prop) (x_0 : Sl) (target_1 : zT6) (cmp_2 : Value) : World → Prop :=
 bx P zth zk6 target_1 fun a1 =>
 zf29_1 R 0 (x_0.len : Int) x_0 cmp_2 a1 (x_0.len : Int)
theorem zf29_2_ok (R : (Int × Bool × Unit) → World → Prop) (x : Sl × Value × Addr × Int × Int × Unit) (w : World) (h : zf29_2 R x.1 x.2.1 x.2.2.1 x.2.2.2.1 x.2.2.2.2.1 w) : WPC P 49 [] (Code.at zf29_B [.snd, .snd, .snd, .snd]) (zf29_q1 R) (mkE 49 zf29_l4 x) w :=
  pc_end h
theorem zf29_3_ok (c1 : (Int × Int × Unit) → (Sl × Value × Addr × Int × Unit) → World → Prop) (R : (Int × Bool × Unit) → World → Prop) (x : Int × Int × Unit) (y : Sl × Value × Addr × Int × Unit) (w : World) (h : zf29_3 c1 R x.1 x.2.1 y.1 y.2.1 y.2.2.1 y.2.2.2.1 w) : WPC P 49 [] (Code.at zf29_B [.snd, .snd, .snd, .fst, .blk, .blk]) (zf29_q2 c1 R) (mkE2 49 zf29_l2 zf29_l3 x y) w :=
  pc_end h
theorem zf29_1_ok (R : (Int × Bool × Unit) → World → Prop) (x : Int × Int × Unit) (y : Sl × Value × Addr × Int × Unit) (w : World) (h : zf29_1 R x.1 x.2.1 y.1 y.2.1 y.2.2.1 y.2.2.2.1 w) : WPC P 49 [] (Code.at zf29_B [.snd, .snd, .snd]) (zf29_q1 R) (mkE2 49 zf29_l2 zf29_l3 x y) w :=
  pc_loopR (l := zf29_l2) (l' := zf29_l3) (lr := zf29_l4) (FR := fun (x : Sl × Value × Addr × Int × Int × Unit) => zf29_2 R x.1 x.2.1 x.2.2.1 x.2.2.2.1 x.2.2.2.2.1) (id := 0) (b := (Code.at zf29_B [.snd, .snd, .snd, .fst, .blk, .blk])) (rest := (Code.at zf29_B [.snd, .snd, .snd, .snd])) (fun c1 s => zf29_3_ok c1 R s y) (zf29_2_ok R) h
theorem zf29_0_ok (R : (Int × Bool × Unit) → World → Prop) (x : Sl × zT6 × Value × Unit) (w : World) (h : zf29_0 R x.1 x.2.1 x.2.2.1 w) : WPC P 49 [] (Code.at zf29_B []) (zf29_q1 R) (mkE 49 zf29_l1 x) w :=
  pc_cut2 (l := zf29_l2) (l' := zf29_l3) 3 (zf29_1_ok R) h
theorem zf29_call (R : (Int × Bool × Unit) → World → Prop) (x_0 : Sl) (target_1 : zT6) (cmp_2 : Value) (w : World) (h : zf29_0 R x_0 target_1 cmp_2 w) : mcall P n_zf29 [(Sl.v x_0), (KV zk6 target_1), cmp_2] (.tup [I, .b]) R w :=
  pc_top (l := zf29_l1) (c := zf29_B) Tryz.func84 (zf29_0_ok R) h
noncomputable abbrev zf2a_B : Code := (Tryz.f85.body).getD .skip
abbrev zf2a_q1 (R : Sl → World → Prop) := (topQ P [.tmp 6] .sl R)
abbrev zf2a_l1 : Slots := [(0, .sl), (1, I), (2, .sl)]
def zf2a_0 (R : Sl → World → Prop) (s_0 : Sl) (i_1 : Int) (v_2 : Sl) : World → Prop :=
 slc P zt8 s_0 (some i_1) none fun x1 =>
 mif ((v_2.len : Int) == 0)
 (R s_0)
 (mif (i_1 == (s_0.len : Int))
 (app P #[zt8, zt8] zt8 (Sl.v s_0) (Sl.v v_2) fun x2 =>
 R x2)
 (mif (decide ((w64 ((s_0.len : Int) + (v_2.len : Int))) > (s_0.cap : Int)))
 (slc P zt8 s_0 none (some i_1) fun x3 =>
 app P #[zt8, zt1] zt8 (Sl.v x3) (.int .i64 (w64 ((w64 ((s_0.len : Int) + (v_2.len : Int))) - i_1))) fun x4 =>
 slc P zt8 x4 (some i_1) none fun x5 =>
 mop P (Builtin.copy_ #[zt8, zt8] zt1 #[.slice x5.a x5.len x5.cap, .slice v_2.a v_2.len v_2.cap]) I fun (x6 : Int) =>
 mdraw <|
 slc P zt8 x4 (some (w64 (i_1 + (v_2.len : Int)))) none fun x7 =>
 slc P zt8 s_0 (some i_1) none fun x8 =>
 mop P (Builtin.copy_ #[zt8, zt8] zt1 #[.slice x7.a x7.len x7.cap, .slice x8.a x8.len x8.cap]) I fun (x9 : Int) =>
 R x4)
 (slc P zt8 s_0 none (some (w64 ((s_0.len : Int) + (v_2.len : Int)))) fun x10 =>
 slc P zt8 x10 (some (w64 (i_1 + (v_2.len : Int)))) none fun x11 =>
 mcall P n_zf3l [(Sl.v v_2), (Sl.v x11)] .b fun (x12 : Bool) =>
 mif (!x12)
 (mdraw <|
 slc P zt8 x10 (some (w64 (i_1 + (v_2.len : Int)))) none fun x13 =>
 slc P zt8 x10 (some i_1) none fun x14 =>
 mop P (Builtin.copy_ #[zt8, zt8] zt1 #[.slice x13.a x13.len x13.cap, .slice x14.a x14.len x14.cap]) I fun (x15 : Int) =>
 slc P zt8 x10 (some i_1) none fun x16 =>
 mop P (Builtin.copy_ #[zt8, zt8] zt1 #[.slice x16.a x16.len x16.cap, .slice v_2.a v_2.len v_2.cap]) I fun (x17 : Int) =>
 R x10)
 (slc P zt8 x10 (some (s_0.len : Int)) none fun x18 =>
 mop P (Builtin.copy_ #[zt8, zt8] zt1 #[.slice x18.a x18.len x18.cap, .slice v_2.a v_2.len v_2.cap]) I fun (x19 : Int) =>
 slc P zt8 x10 (some i_1) none fun x20 =>
 mcall P n_zf3m [(Sl.v x20), (.int .i64 (v_2.len : Int))] (.tup []) fun (x21 : Unit) =>
 R x10))))
theorem zf2a_0_ok (R : Sl → World → Prop) (x : Sl × Int × Sl × Unit) (w : World) (h : zf2a_0 R x.1 x.2.1 x.2.2.1 w) : WPC P 95 [] (Code.at zf2a_B []) (zf2a_q1 R) (mkE 95 zf2a_l1 x) w :=
  pc_end h
theorem zf2a_call (R : Sl → World → Prop) (s_0 : Sl) (i_1 : Int) (v_2 : Sl) (w : World) (h : zf2a_0 R s_0 i_1 v_2 w) : mcall P n_zf2a [(Sl.v s_0), (.int .i64 i_1), (Sl.v v_2)] .sl R w :=
  pc_top (l := zf2a_l1) (c := zf2a_B) Tryz.func85 (zf2a_0_ok R) h
noncomputable abbrev zf2b_B : Code := (Tryz.f86.body).getD .skip
abbrev zf2b_q1 (R : zT5 → World → Prop) := (topQ P [.cell 4 ztg] zk5 R)
abbrev zf2b_l1 : Slots := [(0, zk5), (1, I)]
abbrev zf2b_l2 : Slots := [(1, I), (2, .ad), (4, .ad)]
def zf2b_1 (R : zT5 → World → Prop) (v_1 : Int) (a_2 : Addr) (v4 : Addr) : World → Prop :=
 ld P zt1 a_2 I fun (x4 : Int) =>
 mcall P n_zf3n [(.int .i64 x4), (.int .i64 1)] I fun (x5 : Int) =>
 sto P zt1 a_2 I x5 <|
 ld P zt1 (ad a_2 1) I fun (x6 : Int) =>
 mcall P n_zf3n [(.int .i64 x6), (.int .i64 v_1)] I fun (x7 : Int) =>
 sto P zt1 (ad a_2 1) I x7 <|
 ld P zt1 (ad a_2 2) I fun (x8 : Int) =>
 ld P zt1 (ad a_2 3) I fun (x9 : Int) =>
 sto P zt1 (ad a_2 2) I (mn x8 v_1) <|
 sto P zt1 (ad a_2 3) I (mx x9 v_1) <|
 mcall P n_zf3o [(.int .i64 v_1)] I fun (x10 : Int) =>
 mcall P n_zf3o [(.int .i64 v_1)] I fun (x11 : Int) =>
 ixa P ztf (.pointer (some (ad a_2 4))) x11 fun x12 =>
 ld P zt1 x12 I fun (x13 : Int) =>
 mcall P n_zf3n [(.int .i64 x13), (.int .i64 1)] I fun (x14 : Int) =>
 ixa P ztf (.pointer (some (ad a_2 4))) x10 fun x15 =>
 sto P zt1 x15 I x14 <|
 mcall P n_zf3p [(.int .i64 v_1)] .v fun (x16 : Value) =>
 mdraw <|
 ld P zt1 (ad a_2 8) I fun (x17 : Int) =>
 mrd P (Builtin.real_ #[zt1a] zt1b #[x16]) .v fun (x18 : Value) =>
 mrd P (convert zt1b zt1 x18) I fun (x19 : Int) =>
 ld P zt1 (ad a_2 9) I fun (x20 : Int) =>
 mrd P (Builtin.imag_ #[zt1a] zt1b #[x16]) .v fun (x21 : Value) =>
 mrd P (convert zt1b zt1 x21) I fun (x22 : Int) =>
 mcall P n_zf3n [(.int .i64 x17), (.int .i64 x19)] I fun (x23 : Int) =>
 mst P (convert zt1b zt1 x21) (.int .i64 x22) <|
 mst P (Builtin.imag_ #[zt1a] zt1b #[x16]) x21 <|
 mst P (Instr.loadAt zt1 (.pointer (some (ad a_2 9)))) (.int .i64 x20) <|
 mcall P n_zf3n [(.int .i64 x20), (.int .i64 x22)] I fun (x24 : Int) =>
 sto P zt1 (ad a_2 8) I x23 <|
 sto P zt1 (ad a_2 9) I x24 <|
 ld P ztg a_2 zk5 fun (x25 : zT5) =>
 sto P ztg v4 zk5 x25 <|
 ld P ztg v4 zk5 fun (x26 : zT5) =>
 R x26
def zf2b_0 (R : zT5 → World → Prop) (a_0 : zT5) (v_1 : Int) : World → Prop :=
 bx P ztg zk5 a_0 fun a1 =>
 alo P ztg fun a2 =>
 ld P zt1 a1 I fun (x3 : Int) =>
 mif (x3 == 0)
 (sto P zt1 (ad a1 2) I v_1 <|
 sto P zt1 (ad a1 3) I v_1 <|
 zf2b_1 R v_1 a1 a2)
 (zf2b_1 R v_1 a1 a2)
theorem zf2b_1_ok (R : zT5 → World → Prop) (x : Int × Addr × Addr × Unit) (w : World) (h : zf2b_1 R x.1 x.2.1 x.2.2.1 w) : WPC P 59 [] (Code.at zf2b_B [.snd, .snd]) (zf2b_q1 R) (mkE 59 zf2b_l2 x) w :=
  pc_end h
theorem zf2b_0_ok (R : zT5 → World → Prop) (x : zT5 × Int × Unit) (w : World) (h : zf2b_0 R x.1 x.2.1 w) : WPC P 59 [] (Code.at zf2b_B []) (zf2b_q1 R) (mkE 59 zf2b_l1 x) w :=
  pc_cut (l := zf2b_l2) 2 (zf2b_1_ok R) h
theorem zf2b_call (R : zT5 → World → Prop) (a_0 : zT5) (v_1 : Int) (w : World) (h : zf2b_0 R a_0 v_1 w) : mcall P n_zf2b [(KV zk5 a_0), (.int .i64 v_1)] zk5 R w :=
  pc_top (l := zf2b_l1) (c := zf2b_B) Tryz.func86 (zf2b_0_ok R) h
end Go.Proofs.YtpjhflboedicpaaGreatDoor
