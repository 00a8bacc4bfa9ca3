/- Short texts of functions of the program, each with the proof that a call comes to it. No condition. -/
import Derived.Test.YtpjhflboedicpaaGreatDoorNames
set_option linter.unusedVariables false
set_option linter.unusedSimpArgs false
namespace Go.Proofs.YtpjhflboedicpaaGreatDoor
open Go Go.W
set_option maxRecDepth 100000
noncomputable abbrev zf43_B : Code := (Tryz.f153.body).getD .skip
abbrev zf43_q1 (R : Bool → World → Prop) := (topQ P [.tmp 2] .b R)
abbrev zf43_l1 : Slots := [(0, .s)]
def zf43_0 (R : Bool → World → Prop) (name_0 : Bs) : World → Prop :=
 mif (!(name_0 == []))
 (mif (decide ((name_0.length : Int) ≤ 24))
 (mcall P n_zf2n [(.string ⟨name_0.toArray⟩), (.string ⟨[97, 98, 99, 100, 101, 102, 103, 104, 105, 106, 107, 108, 109, 110, 111, 112, 113, 114, 115, 116, 117, 118, 119, 120, 121, 122, 48, 49, 50, 51, 52, 53, 54, 55, 56, 57, 46, 45].toArray⟩)] .s fun (x1 : Bs) =>
 R (x1 == []))
 (R false))
 (R false)
theorem zf43_0_ok (R : Bool → World → Prop) (x : Bs × Unit) (w : World) (h : zf43_0 R x.1 w) : WPC P 15 [] (Code.at zf43_B []) (zf43_q1 R) (mkE 15 zf43_l1 x) w :=
  pc_end h
theorem zf43_call (R : Bool → World → Prop) (name_0 : Bs) (w : World) (h : zf43_0 R name_0 w) : mcall P n_zf43 [(.string ⟨name_0.toArray⟩)] .b R w :=
  pc_top (l := zf43_l1) (c := zf43_B) Tryz.func153 (zf43_0_ok R) h
noncomputable abbrev zf45_B : Code := (Tryz.f155.body).getD .skip
abbrev zf45_q1 (R : Unit → World → Prop) := (topQ P [] (.tup []) R)
abbrev zf45_l1 : Slots := [(0, .sl), (1, I), (2, I), (3, I)]
abbrev zf45_l2 : Slots := [(1, I), (2, I), (3, I), (8, .b), (9, .b)]
abbrev zf45_l3 : Slots := [(0, .sl)]
abbrev zf45_q2 (c1 : (Int × Int × Int × Bool × Bool × Unit) → (Sl × Unit) → World → Prop) (R : Unit → World → Prop) := (thenQ (fun env => getE env zf45_l2 fun (s : Int × Int × Int × Bool × Bool × Unit) => getE env zf45_l3 (c1 s)) (blockQ 0 ((zf45_q1 R) .normal) (zf45_q1 R)))
def zf45_2 (c1 : (Int × Int × Int × Bool × Bool × Unit) → (Sl × Unit) → World → Prop) (R : Unit → World → Prop) (a_1 : Int) (b_2 : Int) (limit_3 : Int) (wasBalanced_8 : Bool) (wasPartitioned_9 : Bool) (data_0 : Sl) : World → Prop :=
 mif (decide ((w64 (b_2 - a_1)) ≤ 12))
 (mcall P n_zf4o [(Sl.v data_0), (.int .i64 a_1), (.int .i64 b_2)] (.tup []) fun (x1 : Unit) =>
 R (()))
 (mif (limit_3 == 0)
 (mcall P n_zf4p [(Sl.v data_0), (.int .i64 a_1), (.int .i64 b_2)] (.tup []) fun (x2 : Unit) =>
 R (()))
 (mif (!wasBalanced_8)
 (mcall P n_zf4q [(Sl.v data_0), (.int .i64 a_1), (.int .i64 b_2)] (.tup []) fun (x3 : Unit) =>
 mcall P n_zf4r [(Sl.v data_0), (.int .i64 a_1), (.int .i64 b_2)] (.tup [I, I]) fun (x4 : Int × Int × Unit) =>
 mif (x4.2.1 == 2)
 (mcall P n_zf4s [(Sl.v data_0), (.int .i64 a_1), (.int .i64 b_2)] (.tup []) fun (x5 : Unit) =>
 mif wasBalanced_8
 (mif wasPartitioned_9
 (mif (1 == 1)
 (mcall P n_zf4t [(Sl.v data_0), (.int .i64 a_1), (.int .i64 b_2)] .b fun (x6 : Bool) =>
 mif x6
 (R (()))
 (mdraw <|
 mif (decide (a_1 > 0))
 (ixa P ztp (Sl.v data_0) (w64 (a_1 - 1)) fun x7 =>
 ld P zt4 x7 .s fun (x8 : Bs) =>
 ixa P ztp (Sl.v data_0) (w64 ((w64 (b_2 - 1)) - (w64 (x4.1 - a_1)))) fun x9 =>
 ld P zt4 x9 .s fun (x10 : Bs) =>
 mcall P n_zf4u [(.string ⟨x8.toArray⟩), (.string ⟨x10.toArray⟩)] .b fun (x11 : Bool) =>
 mif (!x11)
 (mcall P n_zf4v [(Sl.v data_0), (.int .i64 a_1), (.int .i64 b_2), (.int .i64 (w64 ((w64 (b_2 - 1)) - (w64 (x4.1 - a_1)))))] I fun (x12 : Int) =>
 c1 (x12, b_2, w64 (limit_3 - 1), wasBalanced_8, wasPartitioned_9, ()) (data_0, ()))
 (mcall P n_zf4w [(Sl.v data_0), (.int .i64 a_1), (.int .i64 b_2), (.int .i64 (w64 ((w64 (b_2 - 1)) - (w64 (x4.1 - a_1)))))] (.tup [I, .b]) fun (x13 : Int × Bool × Unit) =>
 mif (decide ((w64 (x13.1 - a_1)) < (w64 (b_2 - x13.1))))
 (mcall P n_zf45 [(Sl.v data_0), (.int .i64 a_1), (.int .i64 x13.1), (.int .i64 (w64 (limit_3 - 1)))] (.tup []) fun (x14 : Unit) =>
 c1 (w64 (x13.1 + 1), b_2, w64 (limit_3 - 1), decide ((w64 (x13.1 - a_1)) ≥ (w64 ((w64 (b_2 - a_1)).tdiv 8))), x13.2.1, ()) (data_0, ()))
 (mcall P n_zf45 [(Sl.v data_0), (.int .i64 (w64 (x13.1 + 1))), (.int .i64 b_2), (.int .i64 (w64 (limit_3 - 1)))] (.tup []) fun (x15 : Unit) =>
 c1 (a_1, x13.1, w64 (limit_3 - 1), decide ((w64 (b_2 - x13.1)) ≥ (w64 ((w64 (b_2 - a_1)).tdiv 8))), x13.2.1, ()) (data_0, ()))))
 (mcall P n_zf4w [(Sl.v data_0), (.int .i64 a_1), (.int .i64 b_2), (.int .i64 (w64 ((w64 (b_2 - 1)) - (w64 (x4.1 - a_1)))))] (.tup [I, .b]) fun (x16 : Int × Bool × Unit) =>
 mif (decide ((w64 (x16.1 - a_1)) < (w64 (b_2 - x16.1))))
 (mcall P n_zf45 [(Sl.v data_0), (.int .i64 a_1), (.int .i64 x16.1), (.int .i64 (w64 (limit_3 - 1)))] (.tup []) fun (x17 : Unit) =>
 c1 (w64 (x16.1 + 1), b_2, w64 (limit_3 - 1), decide ((w64 (x16.1 - a_1)) ≥ (w64 ((w64 (b_2 - a_1)).tdiv 8))), x16.2.1, ()) (data_0, ()))
 (mcall P n_zf45 [(Sl.v data_0), (.int .i64 (w64 (x16.1 + 1))), (.int .i64 b_2), (.int .i64 (w64 (limit_3 - 1)))] (.tup []) fun (x18 : Unit) =>
 c1 (a_1, x16.1, w64 (limit_3 - 1), decide ((w64 (b_2 - x16.1)) ≥ (w64 ((w64 (b_2 - a_1)).tdiv 8))), x16.2.1, ()) (data_0, ())))))
 (mdraw <|
 mif (decide (a_1 > 0))
 (ixa P ztp (Sl.v data_0) (w64 (a_1 - 1)) fun x19 =>
 ld P zt4 x19 .s fun (x20 : Bs) =>
 ixa P ztp (Sl.v data_0) (w64 ((w64 (b_2 - 1)) - (w64 (x4.1 - a_1)))) fun x21 =>
 ld P zt4 x21 .s fun (x22 : Bs) =>
 mcall P n_zf4u [(.string ⟨x20.toArray⟩), (.string ⟨x22.toArray⟩)] .b fun (x23 : Bool) =>
 mif (!x23)
 (mcall P n_zf4v [(Sl.v data_0), (.int .i64 a_1), (.int .i64 b_2), (.int .i64 (w64 ((w64 (b_2 - 1)) - (w64 (x4.1 - a_1)))))] I fun (x24 : Int) =>
 c1 (x24, b_2, w64 (limit_3 - 1), wasBalanced_8, wasPartitioned_9, ()) (data_0, ()))
 (mcall P n_zf4w [(Sl.v data_0), (.int .i64 a_1), (.int .i64 b_2), (.int .i64 (w64 ((w64 (b_2 - 1)) - (w64 (x4.1 - a_1)))))] (.tup [I, .b]) fun (x25 : Int × Bool × Unit) =>
 mif (decide ((w64 (x25.1 - a_1)) < (w64 (b_2 - x25.1))))
 (mcall P n_zf45 [(Sl.v data_0), (.int .i64 a_1), (.int .i64 x25.1), (.int .i64 (w64 (limit_3 - 1)))] (.tup []) fun (x26 : Unit) =>
 c1 (w64 (x25.1 + 1), b_2, w64 (limit_3 - 1), decide ((w64 (x25.1 - a_1)) ≥ (w64 ((w64 (b_2 - a_1)).tdiv 8))), x25.2.1, ()) (data_0, ()))
 (mcall P n_zf45 [(Sl.v data_0), (.int .i64 (w64 (x25.1 + 1))), (.int .i64 b_2), (.int .i64 (w64 (limit_3 - 1)))] (.tup []) fun (x27 : Unit) =>
 c1 (a_1, x25.1, w64 (limit_3 - 1), decide ((w64 (b_2 - x25.1)) ≥ (w64 ((w64 (b_2 - a_1)).tdiv 8))), x25.2.1, ()) (data_0, ()))))
 (mcall P n_zf4w [(Sl.v data_0), (.int .i64 a_1), (.int .i64 b_2), (.int .i64 (w64 ((w64 (b_2 - 1)) - (w64 (x4.1 - a_1)))))] (.tup [I, .b]) fun (x28 : Int × Bool × Unit) =>
 mif (decide ((w64 (x28.1 - a_1)) < (w64 (b_2 - x28.1))))
 (mcall P n_zf45 [(Sl.v data_0), (.int .i64 a_1), (.int .i64 x28.1), (.int .i64 (w64 (limit_3 - 1)))] (.tup []) fun (x29 : Unit) =>
 c1 (w64 (x28.1 + 1), b_2, w64 (limit_3 - 1), decide ((w64 (x28.1 - a_1)) ≥ (w64 ((w64 (b_2 - a_1)).tdiv 8))), x28.2.1, ()) (data_0, ()))
 (mcall P n_zf45 [(Sl.v data_0), (.int .i64 (w64 (x28.1 + 1))), (.int .i64 b_2), (.int .i64 (w64 (limit_3 - 1)))] (.tup []) fun (x30 : Unit) =>
 c1 (a_1, x28.1, w64 (limit_3 - 1), decide ((w64 (b_2 - x28.1)) ≥ (w64 ((w64 (b_2 - a_1)).tdiv 8))), x28.2.1, ()) (data_0, ())))))
 (mdraw <|
 mif (decide (a_1 > 0))
 (ixa P ztp (Sl.v data_0) (w64 (a_1 - 1)) fun x31 =>
 ld P zt4 x31 .s fun (x32 : Bs) =>
 ixa P ztp (Sl.v data_0) (w64 ((w64 (b_2 - 1)) - (w64 (x4.1 - a_1)))) fun x33 =>
 ld P zt4 x33 .s fun (x34 : Bs) =>
 mcall P n_zf4u [(.string ⟨x32.toArray⟩), (.string ⟨x34.toArray⟩)] .b fun (x35 : Bool) =>
 mif (!x35)
 (mcall P n_zf4v [(Sl.v data_0), (.int .i64 a_1), (.int .i64 b_2), (.int .i64 (w64 ((w64 (b_2 - 1)) - (w64 (x4.1 - a_1)))))] I fun (x36 : Int) =>
 c1 (x36, b_2, w64 (limit_3 - 1), wasBalanced_8, wasPartitioned_9, ()) (data_0, ()))
 (mcall P n_zf4w [(Sl.v data_0), (.int .i64 a_1), (.int .i64 b_2), (.int .i64 (w64 ((w64 (b_2 - 1)) - (w64 (x4.1 - a_1)))))] (.tup [I, .b]) fun (x37 : Int × Bool × Unit) =>
 mif (decide ((w64 (x37.1 - a_1)) < (w64 (b_2 - x37.1))))
 (mcall P n_zf45 [(Sl.v data_0), (.int .i64 a_1), (.int .i64 x37.1), (.int .i64 (w64 (limit_3 - 1)))] (.tup []) fun (x38 : Unit) =>
 c1 (w64 (x37.1 + 1), b_2, w64 (limit_3 - 1), decide ((w64 (x37.1 - a_1)) ≥ (w64 ((w64 (b_2 - a_1)).tdiv 8))), x37.2.1, ()) (data_0, ()))
 (mcall P n_zf45 [(Sl.v data_0), (.int .i64 (w64 (x37.1 + 1))), (.int .i64 b_2), (.int .i64 (w64 (limit_3 - 1)))] (.tup []) fun (x39 : Unit) =>
 c1 (a_1, x37.1, w64 (limit_3 - 1), decide ((w64 (b_2 - x37.1)) ≥ (w64 ((w64 (b_2 - a_1)).tdiv 8))), x37.2.1, ()) (data_0, ()))))
 (mcall P n_zf4w [(Sl.v data_0), (.int .i64 a_1), (.int .i64 b_2), (.int .i64 (w64 ((w64 (b_2 - 1)) - (w64 (x4.1 - a_1)))))] (.tup [I, .b]) fun (x40 : Int × Bool × Unit) =>
 mif (decide ((w64 (x40.1 - a_1)) < (w64 (b_2 - x40.1))))
 (mcall P n_zf45 [(Sl.v data_0), (.int .i64 a_1), (.int .i64 x40.1), (.int .i64 (w64 (limit_3 - 1)))] (.tup []) fun (x41 : Unit) =>
 c1 (w64 (x40.1 + 1), b_2, w64 (limit_3 - 1), decide ((w64 (x40.1 - a_1)) ≥ (w64 ((w64 (b_2 - a_1)).tdiv 8))), x40.2.1, ()) (data_0, ()))
 (mcall P n_zf45 [(Sl.v data_0), (.int .i64 (w64 (x40.1 + 1))), (.int .i64 b_2), (.int .i64 (w64 (limit_3 - 1)))] (.tup []) fun (x42 : Unit) =>
 c1 (a_1, x40.1, w64 (limit_3 - 1), decide ((w64 (b_2 - x40.1)) ≥ (w64 ((w64 (b_2 - a_1)).tdiv 8))), x40.2.1, ()) (data_0, ())))))
 (mdraw <|
 mif (decide (a_1 > 0))
 (ixa P ztp (Sl.v data_0) (w64 (a_1 - 1)) fun x43 =>
 ld P zt4 x43 .s fun (x44 : Bs) =>
 ixa P ztp (Sl.v data_0) (w64 ((w64 (b_2 - 1)) - (w64 (x4.1 - a_1)))) fun x45 =>
 ld P zt4 x45 .s fun (x46 : Bs) =>
 mcall P n_zf4u [(.string ⟨x44.toArray⟩), (.string ⟨x46.toArray⟩)] .b fun (x47 : Bool) =>
 mif (!x47)
 (mcall P n_zf4v [(Sl.v data_0), (.int .i64 a_1), (.int .i64 b_2), (.int .i64 (w64 ((w64 (b_2 - 1)) - (w64 (x4.1 - a_1)))))] I fun (x48 : Int) =>
 c1 (x48, b_2, w64 (limit_3 - 1), wasBalanced_8, wasPartitioned_9, ()) (data_0, ()))
 (mcall P n_zf4w [(Sl.v data_0), (.int .i64 a_1), (.int .i64 b_2), (.int .i64 (w64 ((w64 (b_2 - 1)) - (w64 (x4.1 - a_1)))))] (.tup [I, .b]) fun (x49 : Int × Bool × Unit) =>
 mif (decide ((w64 (x49.1 - a_1)) < (w64 (b_2 - x49.1))))
 (mcall P n_zf45 [(Sl.v data_0), (.int .i64 a_1), (.int .i64 x49.1), (.int .i64 (w64 (limit_3 - 1)))] (.tup []) fun (x50 : Unit) =>
 c1 (w64 (x49.1 + 1), b_2, w64 (limit_3 - 1), decide ((w64 (x49.1 - a_1)) ≥ (w64 ((w64 (b_2 - a_1)).tdiv 8))), x49.2.1, ()) (data_0, ()))
 (mcall P n_zf45 [(Sl.v data_0), (.int .i64 (w64 (x49.1 + 1))), (.int .i64 b_2), (.int .i64 (w64 (limit_3 - 1)))] (.tup []) fun (x51 : Unit) =>
 c1 (a_1, x49.1, w64 (limit_3 - 1), decide ((w64 (b_2 - x49.1)) ≥ (w64 ((w64 (b_2 - a_1)).tdiv 8))), x49.2.1, ()) (data_0, ()))))
 (mcall P n_zf4w [(Sl.v data_0), (.int .i64 a_1), (.int .i64 b_2), (.int .i64 (w64 ((w64 (b_2 - 1)) - (w64 (x4.1 - a_1)))))] (.tup [I, .b]) fun (x52 : Int × Bool × Unit) =>
 mif (decide ((w64 (x52.1 - a_1)) < (w64 (b_2 - x52.1))))
 (mcall P n_zf45 [(Sl.v data_0), (.int .i64 a_1), (.int .i64 x52.1), (.int .i64 (w64 (limit_3 - 1)))] (.tup []) fun (x53 : Unit) =>
 c1 (w64 (x52.1 + 1), b_2, w64 (limit_3 - 1), decide ((w64 (x52.1 - a_1)) ≥ (w64 ((w64 (b_2 - a_1)).tdiv 8))), x52.2.1, ()) (data_0, ()))
 (mcall P n_zf45 [(Sl.v data_0), (.int .i64 (w64 (x52.1 + 1))), (.int .i64 b_2), (.int .i64 (w64 (limit_3 - 1)))] (.tup []) fun (x54 : Unit) =>
 c1 (a_1, x52.1, w64 (limit_3 - 1), decide ((w64 (b_2 - x52.1)) ≥ (w64 ((w64 (b_2 - a_1)).tdiv 8))), x52.2.1, ()) (data_0, ())))))
 (mif wasBalanced_8
 (mif wasPartitioned_9
 (mif (x4.2.1 == 1)
 (mcall P n_zf4t [(Sl.v data_0), (.int .i64 a_1), (.int .i64 b_2)] .b fun (x55 : Bool) =>
 mif x55
 (R (()))
 (mdraw <|
 mif (decide (a_1 > 0))
 (ixa P ztp (Sl.v data_0) (w64 (a_1 - 1)) fun x56 =>
 ld P zt4 x56 .s fun (x57 : Bs) =>
 ixa P ztp (Sl.v data_0) x4.1 fun x58 =>
 ld P zt4 x58 .s fun (x59 : Bs) =>
 mcall P n_zf4u [(.string ⟨x57.toArray⟩), (.string ⟨x59.toArray⟩)] .b fun (x60 : Bool) =>
 mif (!x60)
 (mcall P n_zf4v [(Sl.v data_0), (.int .i64 a_1), (.int .i64 b_2), (.int .i64 x4.1)] I fun (x61 : Int) =>
 c1 (x61, b_2, w64 (limit_3 - 1), wasBalanced_8, wasPartitioned_9, ()) (data_0, ()))
 (mcall P n_zf4w [(Sl.v data_0), (.int .i64 a_1), (.int .i64 b_2), (.int .i64 x4.1)] (.tup [I, .b]) fun (x62 : Int × Bool × Unit) =>
 mif (decide ((w64 (x62.1 - a_1)) < (w64 (b_2 - x62.1))))
 (mcall P n_zf45 [(Sl.v data_0), (.int .i64 a_1), (.int .i64 x62.1), (.int .i64 (w64 (limit_3 - 1)))] (.tup []) fun (x63 : Unit) =>
 c1 (w64 (x62.1 + 1), b_2, w64 (limit_3 - 1), decide ((w64 (x62.1 - a_1)) ≥ (w64 ((w64 (b_2 - a_1)).tdiv 8))), x62.2.1, ()) (data_0, ()))
 (mcall P n_zf45 [(Sl.v data_0), (.int .i64 (w64 (x62.1 + 1))), (.int .i64 b_2), (.int .i64 (w64 (limit_3 - 1)))] (.tup []) fun (x64 : Unit) =>
 c1 (a_1, x62.1, w64 (limit_3 - 1), decide ((w64 (b_2 - x62.1)) ≥ (w64 ((w64 (b_2 - a_1)).tdiv 8))), x62.2.1, ()) (data_0, ()))))
 (mcall P n_zf4w [(Sl.v data_0), (.int .i64 a_1), (.int .i64 b_2), (.int .i64 x4.1)] (.tup [I, .b]) fun (x65 : Int × Bool × Unit) =>
 mif (decide ((w64 (x65.1 - a_1)) < (w64 (b_2 - x65.1))))
 (mcall P n_zf45 [(Sl.v data_0), (.int .i64 a_1), (.int .i64 x65.1), (.int .i64 (w64 (limit_3 - 1)))] (.tup []) fun (x66 : Unit) =>
 c1 (w64 (x65.1 + 1), b_2, w64 (limit_3 - 1), decide ((w64 (x65.1 - a_1)) ≥ (w64 ((w64 (b_2 - a_1)).tdiv 8))), x65.2.1, ()) (data_0, ()))
 (mcall P n_zf45 [(Sl.v data_0), (.int .i64 (w64 (x65.1 + 1))), (.int .i64 b_2), (.int .i64 (w64 (limit_3 - 1)))] (.tup []) fun (x67 : Unit) =>
 c1 (a_1, x65.1, w64 (limit_3 - 1), decide ((w64 (b_2 - x65.1)) ≥ (w64 ((w64 (b_2 - a_1)).tdiv 8))), x65.2.1, ()) (data_0, ())))))
 (mdraw <|
 mif (decide (a_1 > 0))
 (ixa P ztp (Sl.v data_0) (w64 (a_1 - 1)) fun x68 =>
 ld P zt4 x68 .s fun (x69 : Bs) =>
 ixa P ztp (Sl.v data_0) x4.1 fun x70 =>
 ld P zt4 x70 .s fun (x71 : Bs) =>
 mcall P n_zf4u [(.string ⟨x69.toArray⟩), (.string ⟨x71.toArray⟩)] .b fun (x72 : Bool) =>
 mif (!x72)
 (mcall P n_zf4v [(Sl.v data_0), (.int .i64 a_1), (.int .i64 b_2), (.int .i64 x4.1)] I fun (x73 : Int) =>
 c1 (x73, b_2, w64 (limit_3 - 1), wasBalanced_8, wasPartitioned_9, ()) (data_0, ()))
 (mcall P n_zf4w [(Sl.v data_0), (.int .i64 a_1), (.int .i64 b_2), (.int .i64 x4.1)] (.tup [I, .b]) fun (x74 : Int × Bool × Unit) =>
 mif (decide ((w64 (x74.1 - a_1)) < (w64 (b_2 - x74.1))))
 (mcall P n_zf45 [(Sl.v data_0), (.int .i64 a_1), (.int .i64 x74.1), (.int .i64 (w64 (limit_3 - 1)))] (.tup []) fun (x75 : Unit) =>
 c1 (w64 (x74.1 + 1), b_2, w64 (limit_3 - 1), decide ((w64 (x74.1 - a_1)) ≥ (w64 ((w64 (b_2 - a_1)).tdiv 8))), x74.2.1, ()) (data_0, ()))
 (mcall P n_zf45 [(Sl.v data_0), (.int .i64 (w64 (x74.1 + 1))), (.int .i64 b_2), (.int .i64 (w64 (limit_3 - 1)))] (.tup []) fun (x76 : Unit) =>
 c1 (a_1, x74.1, w64 (limit_3 - 1), decide ((w64 (b_2 - x74.1)) ≥ (w64 ((w64 (b_2 - a_1)).tdiv 8))), x74.2.1, ()) (data_0, ()))))
 (mcall P n_zf4w [(Sl.v data_0), (.int .i64 a_1), (.int .i64 b_2), (.int .i64 x4.1)] (.tup [I, .b]) fun (x77 : Int × Bool × Unit) =>
 mif (decide ((w64 (x77.1 - a_1)) < (w64 (b_2 - x77.1))))
 (mcall P n_zf45 [(Sl.v data_0), (.int .i64 a_1), (.int .i64 x77.1), (.int .i64 (w64 (limit_3 - 1)))] (.tup []) fun (x78 : Unit) =>
 c1 (w64 (x77.1 + 1), b_2, w64 (limit_3 - 1), decide ((w64 (x77.1 - a_1)) ≥ (w64 ((w64 (b_2 - a_1)).tdiv 8))), x77.2.1, ()) (data_0, ()))
 (mcall P n_zf45 [(Sl.v data_0), (.int .i64 (w64 (x77.1 + 1))), (.int .i64 b_2), (.int .i64 (w64 (limit_3 - 1)))] (.tup []) fun (x79 : Unit) =>
 c1 (a_1, x77.1, w64 (limit_3 - 1), decide ((w64 (b_2 - x77.1)) ≥ (w64 ((w64 (b_2 - a_1)).tdiv 8))), x77.2.1, ()) (data_0, ())))))
 (mdraw <|
 mif (decide (a_1 > 0))
 (ixa P ztp (Sl.v data_0) (w64 (a_1 - 1)) fun x80 =>
 ld P zt4 x80 .s fun (x81 : Bs) =>
 ixa P ztp (Sl.v data_0) x4.1 fun x82 =>
 ld P zt4 x82 .s fun (x83 : Bs) =>
 mcall P n_zf4u [(.string ⟨x81.toArray⟩), (.string ⟨x83.toArray⟩)] .b fun (x84 : Bool) =>
 mif (!x84)
 (mcall P n_zf4v [(Sl.v data_0), (.int .i64 a_1), (.int .i64 b_2), (.int .i64 x4.1)] I fun (x85 : Int) =>
 c1 (x85, b_2, w64 (limit_3 - 1), wasBalanced_8, wasPartitioned_9, ()) (data_0, ()))
 (mcall P n_zf4w [(Sl.v data_0), (.int .i64 a_1), (.int .i64 b_2), (.int .i64 x4.1)] (.tup [I, .b]) fun (x86 : Int × Bool × Unit) =>
 mif (decide ((w64 (x86.1 - a_1)) < (w64 (b_2 - x86.1))))
 (mcall P n_zf45 [(Sl.v data_0), (.int .i64 a_1), (.int .i64 x86.1), (.int .i64 (w64 (limit_3 - 1)))] (.tup []) fun (x87 : Unit) =>
 c1 (w64 (x86.1 + 1), b_2, w64 (limit_3 - 1), decide ((w64 (x86.1 - a_1)) ≥ (w64 ((w64 (b_2 - a_1)).tdiv 8))), x86.2.1, ()) (data_0, ()))
 (mcall P n_zf45 [(Sl.v data_0), (.int .i64 (w64 (x86.1 + 1))), (.int .i64 b_2), (.int .i64 (w64 (limit_3 - 1)))] (.tup []) fun (x88 : Unit) =>
 c1 (a_1, x86.1, w64 (limit_3 - 1), decide ((w64 (b_2 - x86.1)) ≥ (w64 ((w64 (b_2 - a_1)).tdiv 8))), x86.2.1, ()) (data_0, ()))))
 (mcall P n_zf4w [(Sl.v data_0), (.int .i64 a_1), (.int .i64 b_2), (.int .i64 x4.1)] (.tup [I, .b]) fun (x89 : Int × Bool × Unit) =>
 mif (decide ((w64 (x89.1 - a_1)) < (w64 (b_2 - x89.1))))
 (mcall P n_zf45 [(Sl.v data_0), (.int .i64 a_1), (.int .i64 x89.1), (.int .i64 (w64 (limit_3 - 1)))] (.tup []) fun (x90 : Unit) =>
 c1 (w64 (x89.1 + 1), b_2, w64 (limit_3 - 1), decide ((w64 (x89.1 - a_1)) ≥ (w64 ((w64 (b_2 - a_1)).tdiv 8))), x89.2.1, ()) (data_0, ()))
 (mcall P n_zf45 [(Sl.v data_0), (.int .i64 (w64 (x89.1 + 1))), (.int .i64 b_2), (.int .i64 (w64 (limit_3 - 1)))] (.tup []) fun (x91 : Unit) =>
 c1 (a_1, x89.1, w64 (limit_3 - 1), decide ((w64 (b_2 - x89.1)) ≥ (w64 ((w64 (b_2 - a_1)).tdiv 8))), x89.2.1, ()) (data_0, ())))))
 (mdraw <|
 mif (decide (a_1 > 0))
 (ixa P ztp (Sl.v data_0) (w64 (a_1 - 1)) fun x92 =>
 ld P zt4 x92 .s fun (x93 : Bs) =>
 ixa P ztp (Sl.v data_0) x4.1 fun x94 =>
 ld P zt4 x94 .s fun (x95 : Bs) =>
 mcall P n_zf4u [(.string ⟨x93.toArray⟩), (.string ⟨x95.toArray⟩)] .b fun (x96 : Bool) =>
 mif (!x96)
 (mcall P n_zf4v [(Sl.v data_0), (.int .i64 a_1), (.int .i64 b_2), (.int .i64 x4.1)] I fun (x97 : Int) =>
 c1 (x97, b_2, w64 (limit_3 - 1), wasBalanced_8, wasPartitioned_9, ()) (data_0, ()))
 (mcall P n_zf4w [(Sl.v data_0), (.int .i64 a_1), (.int .i64 b_2), (.int .i64 x4.1)] (.tup [I, .b]) fun (x98 : Int × Bool × Unit) =>
 mif (decide ((w64 (x98.1 - a_1)) < (w64 (b_2 - x98.1))))
 (mcall P n_zf45 [(Sl.v data_0), (.int .i64 a_1), (.int .i64 x98.1), (.int .i64 (w64 (limit_3 - 1)))] (.tup []) fun (x99 : Unit) =>
 c1 (w64 (x98.1 + 1), b_2, w64 (limit_3 - 1), decide ((w64 (x98.1 - a_1)) ≥ (w64 ((w64 (b_2 - a_1)).tdiv 8))), x98.2.1, ()) (data_0, ()))
 (mcall P n_zf45 [(Sl.v data_0), (.int .i64 (w64 (x98.1 + 1))), (.int .i64 b_2), (.int .i64 (w64 (limit_3 - 1)))] (.tup []) fun (x100 : Unit) =>
 c1 (a_1, x98.1, w64 (limit_3 - 1), decide ((w64 (b_2 - x98.1)) ≥ (w64 ((w64 (b_2 - a_1)).tdiv 8))), x98.2.1, ()) (data_0, ()))))
 (mcall P n_zf4w [(Sl.v data_0), (.int .i64 a_1), (.int .i64 b_2), (.int .i64 x4.1)] (.tup [I, .b]) fun (x101 : Int × Bool × Unit) =>
 mif (decide ((w64 (x101.1 - a_1)) < (w64 (b_2 - x101.1))))
 (mcall P n_zf45 [(Sl.v data_0), (.int .i64 a_1), (.int .i64 x101.1), (.int .i64 (w64 (limit_3 - 1)))] (.tup []) fun (x102 : Unit) =>
 c1 (w64 (x101.1 + 1), b_2, w64 (limit_3 - 1), decide ((w64 (x101.1 - a_1)) ≥ (w64 ((w64 (b_2 - a_1)).tdiv 8))), x101.2.1, ()) (data_0, ()))
 (mcall P n_zf45 [(Sl.v data_0), (.int .i64 (w64 (x101.1 + 1))), (.int .i64 b_2), (.int .i64 (w64 (limit_3 - 1)))] (.tup []) fun (x103 : Unit) =>
 c1 (a_1, x101.1, w64 (limit_3 - 1), decide ((w64 (b_2 - x101.1)) ≥ (w64 ((w64 (b_2 - a_1)).tdiv 8))), x101.2.1, ()) (data_0, ()))))))
 (mcall P n_zf4r [(Sl.v data_0), (.int .i64 a_1), (.int .i64 b_2)] (.tup [I, I]) fun (x104 : Int × Int × Unit) =>
 mif (x104.2.1 == 2)
 (mcall P n_zf4s [(Sl.v data_0), (.int .i64 a_1), (.int .i64 b_2)] (.tup []) fun (x105 : Unit) =>
 mif wasBalanced_8
 (mif wasPartitioned_9
 (mif (1 == 1)
 (mcall P n_zf4t [(Sl.v data_0), (.int .i64 a_1), (.int .i64 b_2)] .b fun (x106 : Bool) =>
 mif x106
 (R (()))
 (mdraw <|
 mif (decide (a_1 > 0))
 (ixa P ztp (Sl.v data_0) (w64 (a_1 - 1)) fun x107 =>
 ld P zt4 x107 .s fun (x108 : Bs) =>
 ixa P ztp (Sl.v data_0) (w64 ((w64 (b_2 - 1)) - (w64 (x104.1 - a_1)))) fun x109 =>
 ld P zt4 x109 .s fun (x110 : Bs) =>
 mcall P n_zf4u [(.string ⟨x108.toArray⟩), (.string ⟨x110.toArray⟩)] .b fun (x111 : Bool) =>
 mif (!x111)
 (mcall P n_zf4v [(Sl.v data_0), (.int .i64 a_1), (.int .i64 b_2), (.int .i64 (w64 ((w64 (b_2 - 1)) - (w64 (x104.1 - a_1)))))] I fun (x112 : Int) =>
 c1 (x112, b_2, limit_3, wasBalanced_8, wasPartitioned_9, ()) (data_0, ()))
 (mcall P n_zf4w [(Sl.v data_0), (.int .i64 a_1), (.int .i64 b_2), (.int .i64 (w64 ((w64 (b_2 - 1)) - (w64 (x104.1 - a_1)))))] (.tup [I, .b]) fun (x113 : Int × Bool × Unit) =>
 mif (decide ((w64 (x113.1 - a_1)) < (w64 (b_2 - x113.1))))
 (mcall P n_zf45 [(Sl.v data_0), (.int .i64 a_1), (.int .i64 x113.1), (.int .i64 limit_3)] (.tup []) fun (x114 : Unit) =>
 c1 (w64 (x113.1 + 1), b_2, limit_3, decide ((w64 (x113.1 - a_1)) ≥ (w64 ((w64 (b_2 - a_1)).tdiv 8))), x113.2.1, ()) (data_0, ()))
 (mcall P n_zf45 [(Sl.v data_0), (.int .i64 (w64 (x113.1 + 1))), (.int .i64 b_2), (.int .i64 limit_3)] (.tup []) fun (x115 : Unit) =>
 c1 (a_1, x113.1, limit_3, decide ((w64 (b_2 - x113.1)) ≥ (w64 ((w64 (b_2 - a_1)).tdiv 8))), x113.2.1, ()) (data_0, ()))))
 (mcall P n_zf4w [(Sl.v data_0), (.int .i64 a_1), (.int .i64 b_2), (.int .i64 (w64 ((w64 (b_2 - 1)) - (w64 (x104.1 - a_1)))))] (.tup [I, .b]) fun (x116 : Int × Bool × Unit) =>
 mif (decide ((w64 (x116.1 - a_1)) < (w64 (b_2 - x116.1))))
 (mcall P n_zf45 [(Sl.v data_0), (.int .i64 a_1), (.int .i64 x116.1), (.int .i64 limit_3)] (.tup []) fun (x117 : Unit) =>
 c1 (w64 (x116.1 + 1), b_2, limit_3, decide ((w64 (x116.1 - a_1)) ≥ (w64 ((w64 (b_2 - a_1)).tdiv 8))), x116.2.1, ()) (data_0, ()))
 (mcall P n_zf45 [(Sl.v data_0), (.int .i64 (w64 (x116.1 + 1))), (.int .i64 b_2), (.int .i64 limit_3)] (.tup []) fun (x118 : Unit) =>
 c1 (a_1, x116.1, limit_3, decide ((w64 (b_2 - x116.1)) ≥ (w64 ((w64 (b_2 - a_1)).tdiv 8))), x116.2.1, ()) (data_0, ())))))
 (mdraw <|
 mif (decide (a_1 > 0))
 (ixa P ztp (Sl.v data_0) (w64 (a_1 - 1)) fun x119 =>
 ld P zt4 x119 .s fun (x120 : Bs) =>
 ixa P ztp (Sl.v data_0) (w64 ((w64 (b_2 - 1)) - (w64 (x104.1 - a_1)))) fun x121 =>
 ld P zt4 x121 .s fun (x122 : Bs) =>
 mcall P n_zf4u [(.string ⟨x120.toArray⟩), (.string ⟨x122.toArray⟩)] .b fun (x123 : Bool) =>
 mif (!x123)
 (mcall P n_zf4v [(Sl.v data_0), (.int .i64 a_1), (.int .i64 b_2), (.int .i64 (w64 ((w64 (b_2 - 1)) - (w64 (x104.1 - a_1)))))] I fun (x124 : Int) =>
 c1 (x124, b_2, limit_3, wasBalanced_8, wasPartitioned_9, ()) (data_0, ()))
 (mcall P n_zf4w [(Sl.v data_0), (.int .i64 a_1), (.int .i64 b_2), (.int .i64 (w64 ((w64 (b_2 - 1)) - (w64 (x104.1 - a_1)))))] (.tup [I, .b]) fun (x125 : Int × Bool × Unit) =>
 mif (decide ((w64 (x125.1 - a_1)) < (w64 (b_2 - x125.1))))
 (mcall P n_zf45 [(Sl.v data_0), (.int .i64 a_1), (.int .i64 x125.1), (.int .i64 limit_3)] (.tup []) fun (x126 : Unit) =>
 c1 (w64 (x125.1 + 1), b_2, limit_3, decide ((w64 (x125.1 - a_1)) ≥ (w64 ((w64 (b_2 - a_1)).tdiv 8))), x125.2.1, ()) (data_0, ()))
 (mcall P n_zf45 [(Sl.v data_0), (.int .i64 (w64 (x125.1 + 1))), (.int .i64 b_2), (.int .i64 limit_3)] (.tup []) fun (x127 : Unit) =>
 c1 (a_1, x125.1, limit_3, decide ((w64 (b_2 - x125.1)) ≥ (w64 ((w64 (b_2 - a_1)).tdiv 8))), x125.2.1, ()) (data_0, ()))))
 (mcall P n_zf4w [(Sl.v data_0), (.int .i64 a_1), (.int .i64 b_2), (.int .i64 (w64 ((w64 (b_2 - 1)) - (w64 (x104.1 - a_1)))))] (.tup [I, .b]) fun (x128 : Int × Bool × Unit) =>
 mif (decide ((w64 (x128.1 - a_1)) < (w64 (b_2 - x128.1))))
 (mcall P n_zf45 [(Sl.v data_0), (.int .i64 a_1), (.int .i64 x128.1), (.int .i64 limit_3)] (.tup []) fun (x129 : Unit) =>
 c1 (w64 (x128.1 + 1), b_2, limit_3, decide ((w64 (x128.1 - a_1)) ≥ (w64 ((w64 (b_2 - a_1)).tdiv 8))), x128.2.1, ()) (data_0, ()))
 (mcall P n_zf45 [(Sl.v data_0), (.int .i64 (w64 (x128.1 + 1))), (.int .i64 b_2), (.int .i64 limit_3)] (.tup []) fun (x130 : Unit) =>
 c1 (a_1, x128.1, limit_3, decide ((w64 (b_2 - x128.1)) ≥ (w64 ((w64 (b_2 - a_1)).tdiv 8))), x128.2.1, ()) (data_0, ())))))
 (mdraw <|
 mif (decide (a_1 > 0))
 (ixa P ztp (Sl.v data_0) (w64 (a_1 - 1)) fun x131 =>
 ld P zt4 x131 .s fun (x132 : Bs) =>
 ixa P ztp (Sl.v data_0) (w64 ((w64 (b_2 - 1)) - (w64 (x104.1 - a_1)))) fun x133 =>
 ld P zt4 x133 .s fun (x134 : Bs) =>
 mcall P n_zf4u [(.string ⟨x132.toArray⟩), (.string ⟨x134.toArray⟩)] .b fun (x135 : Bool) =>
 mif (!x135)
 (mcall P n_zf4v [(Sl.v data_0), (.int .i64 a_1), (.int .i64 b_2), (.int .i64 (w64 ((w64 (b_2 - 1)) - (w64 (x104.1 - a_1)))))] I fun (x136 : Int) =>
 c1 (x136, b_2, limit_3, wasBalanced_8, wasPartitioned_9, ()) (data_0, ()))
 (mcall P n_zf4w [(Sl.v data_0), (.int .i64 a_1), (.int .i64 b_2), (.int .i64 (w64 ((w64 (b_2 - 1)) - (w64 (x104.1 - a_1)))))] (.tup [I, .b]) fun (x137 : Int × Bool × Unit) =>
 mif (decide ((w64 (x137.1 - a_1)) < (w64 (b_2 - x137.1))))
 (mcall P n_zf45 [(Sl.v data_0), (.int .i64 a_1), (.int .i64 x137.1), (.int .i64 limit_3)] (.tup []) fun (x138 : Unit) =>
 c1 (w64 (x137.1 + 1), b_2, limit_3, decide ((w64 (x137.1 - a_1)) ≥ (w64 ((w64 (b_2 - a_1)).tdiv 8))), x137.2.1, ()) (data_0, ()))
 (mcall P n_zf45 [(Sl.v data_0), (.int .i64 (w64 (x137.1 + 1))), (.int .i64 b_2), (.int .i64 limit_3)] (.tup []) fun (x139 : Unit) =>
 c1 (a_1, x137.1, limit_3, decide ((w64 (b_2 - x137.1)) ≥ (w64 ((w64 (b_2 - a_1)).tdiv 8))), x137.2.1, ()) (data_0, ()))))
 (mcall P n_zf4w [(Sl.v data_0), (.int .i64 a_1), (.int .i64 b_2), (.int .i64 (w64 ((w64 (b_2 - 1)) - (w64 (x104.1 - a_1)))))] (.tup [I, .b]) fun (x140 : Int × Bool × Unit) =>
 mif (decide ((w64 (x140.1 - a_1)) < (w64 (b_2 - x140.1))))
 (mcall P n_zf45 [(Sl.v data_0), (.int .i64 a_1), (.int .i64 x140.1), (.int .i64 limit_3)] (.tup []) fun (x141 : Unit) =>
 c1 (w64 (x140.1 + 1), b_2, limit_3, decide ((w64 (x140.1 - a_1)) ≥ (w64 ((w64 (b_2 - a_1)).tdiv 8))), x140.2.1, ()) (data_0, ()))
 (mcall P n_zf45 [(Sl.v data_0), (.int .i64 (w64 (x140.1 + 1))), (.int .i64 b_2), (.int .i64 limit_3)] (.tup []) fun (x142 : Unit) =>
 c1 (a_1, x140.1, limit_3, decide ((w64 (b_2 - x140.1)) ≥ (w64 ((w64 (b_2 - a_1)).tdiv 8))), x140.2.1, ()) (data_0, ())))))
 (mdraw <|
 mif (decide (a_1 > 0))
 (ixa P ztp (Sl.v data_0) (w64 (a_1 - 1)) fun x143 =>
 ld P zt4 x143 .s fun (x144 : Bs) =>
 ixa P ztp (Sl.v data_0) (w64 ((w64 (b_2 - 1)) - (w64 (x104.1 - a_1)))) fun x145 =>
 ld P zt4 x145 .s fun (x146 : Bs) =>
 mcall P n_zf4u [(.string ⟨x144.toArray⟩), (.string ⟨x146.toArray⟩)] .b fun (x147 : Bool) =>
 mif (!x147)
 (mcall P n_zf4v [(Sl.v data_0), (.int .i64 a_1), (.int .i64 b_2), (.int .i64 (w64 ((w64 (b_2 - 1)) - (w64 (x104.1 - a_1)))))] I fun (x148 : Int) =>
 c1 (x148, b_2, limit_3, wasBalanced_8, wasPartitioned_9, ()) (data_0, ()))
 (mcall P n_zf4w [(Sl.v data_0), (.int .i64 a_1), (.int .i64 b_2), (.int .i64 (w64 ((w64 (b_2 - 1)) - (w64 (x104.1 - a_1)))))] (.tup [I, .b]) fun (x149 : Int × Bool × Unit) =>
 mif (decide ((w64 (x149.1 - a_1)) < (w64 (b_2 - x149.1))))
 (mcall P n_zf45 [(Sl.v data_0), (.int .i64 a_1), (.int .i64 x149.1), (.int .i64 limit_3)] (.tup []) fun (x150 : Unit) =>
 c1 (w64 (x149.1 + 1), b_2, limit_3, decide ((w64 (x149.1 - a_1)) ≥ (w64 ((w64 (b_2 - a_1)).tdiv 8))), x149.2.1, ()) (data_0, ()))
 (mcall P n_zf45 [(Sl.v data_0), (.int .i64 (w64 (x149.1 + 1))), (.int .i64 b_2), (.int .i64 limit_3)] (.tup []) fun (x151 : Unit) =>
 c1 (a_1, x149.1, limit_3, decide ((w64 (b_2 - x149.1)) ≥ (w64 ((w64 (b_2 - a_1)).tdiv 8))), x149.2.1, ()) (data_0, ()))))
 (mcall P n_zf4w [(Sl.v data_0), (.int .i64 a_1), (.int .i64 b_2), (.int .i64 (w64 ((w64 (b_2 - 1)) - (w64 (x104.1 - a_1)))))] (.tup [I, .b]) fun (x152 : Int × Bool × Unit) =>
 mif (decide ((w64 (x152.1 - a_1)) < (w64 (b_2 - x152.1))))
 (mcall P n_zf45 [(Sl.v data_0), (.int .i64 a_1), (.int .i64 x152.1), (.int .i64 limit_3)] (.tup []) fun (x153 : Unit) =>
 c1 (w64 (x152.1 + 1), b_2, limit_3, decide ((w64 (x152.1 - a_1)) ≥ (w64 ((w64 (b_2 - a_1)).tdiv 8))), x152.2.1, ()) (data_0, ()))
 (mcall P n_zf45 [(Sl.v data_0), (.int .i64 (w64 (x152.1 + 1))), (.int .i64 b_2), (.int .i64 limit_3)] (.tup []) fun (x154 : Unit) =>
 c1 (a_1, x152.1, limit_3, decide ((w64 (b_2 - x152.1)) ≥ (w64 ((w64 (b_2 - a_1)).tdiv 8))), x152.2.1, ()) (data_0, ())))))
 (mif wasBalanced_8
 (mif wasPartitioned_9
 (mif (x104.2.1 == 1)
 (mcall P n_zf4t [(Sl.v data_0), (.int .i64 a_1), (.int .i64 b_2)] .b fun (x155 : Bool) =>
 mif x155
 (R (()))
 (mdraw <|
 mif (decide (a_1 > 0))
 (ixa P ztp (Sl.v data_0) (w64 (a_1 - 1)) fun x156 =>
 ld P zt4 x156 .s fun (x157 : Bs) =>
 ixa P ztp (Sl.v data_0) x104.1 fun x158 =>
 ld P zt4 x158 .s fun (x159 : Bs) =>
 mcall P n_zf4u [(.string ⟨x157.toArray⟩), (.string ⟨x159.toArray⟩)] .b fun (x160 : Bool) =>
 mif (!x160)
 (mcall P n_zf4v [(Sl.v data_0), (.int .i64 a_1), (.int .i64 b_2), (.int .i64 x104.1)] I fun (x161 : Int) =>
 c1 (x161, b_2, limit_3, wasBalanced_8, wasPartitioned_9, ()) (data_0, ()))
 (mcall P n_zf4w [(Sl.v data_0), (.int .i64 a_1), (.int .i64 b_2), (.int .i64 x104.1)] (.tup [I, .b]) fun (x162 : Int × Bool × Unit) =>
 mif (decide ((w64 (x162.1 - a_1)) < (w64 (b_2 - x162.1))))
 (mcall P n_zf45 [(Sl.v data_0), (.int .i64 a_1), (.int .i64 x162.1), (.int .i64 limit_3)] (.tup []) fun (x163 : Unit) =>
 c1 (w64 (x162.1 + 1), b_2, limit_3, decide ((w64 (x162.1 - a_1)) ≥ (w64 ((w64 (b_2 - a_1)).tdiv 8))), x162.2.1, ()) (data_0, ()))
 (mcall P n_zf45 [(Sl.v data_0), (.int .i64 (w64 (x162.1 + 1))), (.int .i64 b_2), (.int .i64 limit_3)] (.tup []) fun (x164 : Unit) =>
 c1 (a_1, x162.1, limit_3, decide ((w64 (b_2 - x162.1)) ≥ (w64 ((w64 (b_2 - a_1)).tdiv 8))), x162.2.1, ()) (data_0, ()))))
 (mcall P n_zf4w [(Sl.v data_0), (.int .i64 a_1), (.int .i64 b_2), (.int .i64 x104.1)] (.tup [I, .b]) fun (x165 : Int × Bool × Unit) =>
 mif (decide ((w64 (x165.1 - a_1)) < (w64 (b_2 - x165.1))))
 (mcall P n_zf45 [(Sl.v data_0), (.int .i64 a_1), (.int .i64 x165.1), (.int .i64 limit_3)] (.tup []) fun (x166 : Unit) =>
 c1 (w64 (x165.1 + 1), b_2, limit_3, decide ((w64 (x165.1 - a_1)) ≥ (w64 ((w64 (b_2 - a_1)).tdiv 8))), x165.2.1, ()) (data_0, ()))
 (mcall P n_zf45 [(Sl.v data_0), (.int .i64 (w64 (x165.1 + 1))), (.int .i64 b_2), (.int .i64 limit_3)] (.tup []) fun (x167 : Unit) =>
 c1 (a_1, x165.1, limit_3, decide ((w64 (b_2 - x165.1)) ≥ (w64 ((w64 (b_2 - a_1)).tdiv 8))), x165.2.1, ()) (data_0, ())))))
 (mdraw <|
 mif (decide (a_1 > 0))
 (ixa P ztp (Sl.v data_0) (w64 (a_1 - 1)) fun x168 =>
 ld P zt4 x168 .s fun (x169 : Bs) =>
 ixa P ztp (Sl.v data_0) x104.1 fun x170 =>
 ld P zt4 x170 .s fun (x171 : Bs) =>
 mcall P n_zf4u [(.string ⟨x169.toArray⟩), (.string ⟨x171.toArray⟩)] .b fun (x172 : Bool) =>
 mif (!x172)
 (mcall P n_zf4v [(Sl.v data_0), (.int .i64 a_1), (.int .i64 b_2), (.int .i64 x104.1)] I fun (x173 : Int) =>
 c1 (x173, b_2, limit_3, wasBalanced_8, wasPartitioned_9, ()) (data_0, ()))
 (mcall P n_zf4w [(Sl.v data_0), (.int .i64 a_1), (.int .i64 b_2), (.int .i64 x104.1)] (.tup [I, .b]) fun (x174 : Int × Bool × Unit) =>
 mif (decide ((w64 (x174.1 - a_1)) < (w64 (b_2 - x174.1))))
 (mcall P n_zf45 [(Sl.v data_0), (.int .i64 a_1), (.int .i64 x174.1), (.int .i64 limit_3)] (.tup []) fun (x175 : Unit) =>
 c1 (w64 (x174.1 + 1), b_2, limit_3, decide ((w64 (x174.1 - a_1)) ≥ (w64 ((w64 (b_2 - a_1)).tdiv 8))), x174.2.1, ()) (data_0, ()))
 (mcall P n_zf45 [(Sl.v data_0), (.int .i64 (w64 (x174.1 + 1))), (.int .i64 b_2), (.int .i64 limit_3)] (.tup []) fun (x176 : Unit) =>
 c1 (a_1, x174.1, limit_3, decide ((w64 (b_2 - x174.1)) ≥ (w64 ((w64 (b_2 - a_1)).tdiv 8))), x174.2.1, ()) (data_0, ()))))
 (mcall P n_zf4w [(Sl.v data_0), (.int .i64 a_1), (.int .i64 b_2), (.int .i64 x104.1)] (.tup [I, .b]) fun (x177 : Int × Bool × Unit) =>
 mif (decide ((w64 (x177.1 - a_1)) < (w64 (b_2 - x177.1))))
 (mcall P n_zf45 [(Sl.v data_0), (.int .i64 a_1), (.int .i64 x177.1), (.int .i64 limit_3)] (.tup []) fun (x178 : Unit) =>
 c1 (w64 (x177.1 + 1), b_2, limit_3, decide ((w64 (x177.1 - a_1)) ≥ (w64 ((w64 (b_2 - a_1)).tdiv 8))), x177.2.1, ()) (data_0, ()))
 (mcall P n_zf45 [(Sl.v data_0), (.int .i64 (w64 (x177.1 + 1))), (.int .i64 b_2), (.int .i64 limit_3)] (.tup []) fun (x179 : Unit) =>
 c1 (a_1, x177.1, limit_3, decide ((w64 (b_2 - x177.1)) ≥ (w64 ((w64 (b_2 - a_1)).tdiv 8))), x177.2.1, ()) (data_0, ())))))
 (mdraw <|
 mif (decide (a_1 > 0))
 (ixa P ztp (Sl.v data_0) (w64 (a_1 - 1)) fun x180 =>
 ld P zt4 x180 .s fun (x181 : Bs) =>
 ixa P ztp (Sl.v data_0) x104.1 fun x182 =>
 ld P zt4 x182 .s fun (x183 : Bs) =>
 mcall P n_zf4u [(.string ⟨x181.toArray⟩), (.string ⟨x183.toArray⟩)] .b fun (x184 : Bool) =>
 mif (!x184)
 (mcall P n_zf4v [(Sl.v data_0), (.int .i64 a_1), (.int .i64 b_2), (.int .i64 x104.1)] I fun (x185 : Int) =>
 c1 (x185, b_2, limit_3, wasBalanced_8, wasPartitioned_9, ()) (data_0, ()))
 (mcall P n_zf4w [(Sl.v data_0), (.int .i64 a_1), (.int .i64 b_2), (.int .i64 x104.1)] (.tup [I, .b]) fun (x186 : Int × Bool × Unit) =>
 mif (decide ((w64 (x186.1 - a_1)) < (w64 (b_2 - x186.1))))
 (mcall P n_zf45 [(Sl.v data_0), (.int .i64 a_1), (.int .i64 x186.1), (.int .i64 limit_3)] (.tup []) fun (x187 : Unit) =>
 c1 (w64 (x186.1 + 1), b_2, limit_3, decide ((w64 (x186.1 - a_1)) ≥ (w64 ((w64 (b_2 - a_1)).tdiv 8))), x186.2.1, ()) (data_0, ()))
 (mcall P n_zf45 [(Sl.v data_0), (.int .i64 (w64 (x186.1 + 1))), (.int .i64 b_2), (.int .i64 limit_3)] (.tup []) fun (x188 : Unit) =>
 c1 (a_1, x186.1, limit_3, decide ((w64 (b_2 - x186.1)) ≥ (w64 ((w64 (b_2 - a_1)).tdiv 8))), x186.2.1, ()) (data_0, ()))))
 (mcall P n_zf4w [(Sl.v data_0), (.int .i64 a_1), (.int .i64 b_2), (.int .i64 x104.1)] (.tup [I, .b]) fun (x189 : Int × Bool × Unit) =>
 mif (decide ((w64 (x189.1 - a_1)) < (w64 (b_2 - x189.1))))
 (mcall P n_zf45 [(Sl.v data_0), (.int .i64 a_1), (.int .i64 x189.1), (.int .i64 limit_3)] (.tup []) fun (x190 : Unit) =>
 c1 (w64 (x189.1 + 1), b_2, limit_3, decide ((w64 (x189.1 - a_1)) ≥ (w64 ((w64 (b_2 - a_1)).tdiv 8))), x189.2.1, ()) (data_0, ()))
 (mcall P n_zf45 [(Sl.v data_0), (.int .i64 (w64 (x189.1 + 1))), (.int .i64 b_2), (.int .i64 limit_3)] (.tup []) fun (x191 : Unit) =>
 c1 (a_1, x189.1, limit_3, decide ((w64 (b_2 - x189.1)) ≥ (w64 ((w64 (b_2 - a_1)).tdiv 8))), x189.2.1, ()) (data_0, ())))))
 (mdraw <|
 mif (decide (a_1 > 0))
 (ixa P ztp (Sl.v data_0) (w64 (a_1 - 1)) fun x192 =>
 ld P zt4 x192 .s fun (x193 : Bs) =>
 ixa P ztp (Sl.v data_0) x104.1 fun x194 =>
 ld P zt4 x194 .s fun (x195 : Bs) =>
 mcall P n_zf4u [(.string ⟨x193.toArray⟩), (.string ⟨x195.toArray⟩)] .b fun (x196 : Bool) =>
 mif (!x196)
 (mcall P n_zf4v [(Sl.v data_0), (.int .i64 a_1), (.int .i64 b_2), (.int .i64 x104.1)] I fun (x197 : Int) =>
 c1 (x197, b_2, limit_3, wasBalanced_8, wasPartitioned_9, ()) (data_0, ()))
 (mcall P n_zf4w [(Sl.v data_0), (.int .i64 a_1), (.int .i64 b_2), (.int .i64 x104.1)] (.tup [I, .b]) fun (x198 : Int × Bool × Unit) =>
 mif (decide ((w64 (x198.1 - a_1)) < (w64 (b_2 - x198.1))))
 (mcall P n_zf45 [(Sl.v data_0), (.int .i64 a_1), (.int .i64 x198.1), (.int .i64 limit_3)] (.tup []) fun (x199 : Unit) =>
 c1 (w64 (x198.1 + 1), b_2, limit_3, decide ((w64 (x198.1 - a_1)) ≥ (w64 ((w64 (b_2 - a_1)).tdiv 8))), x198.2.1, ()) (data_0, ()))
 (mcall P n_zf45 [(Sl.v data_0), (.int .i64 (w64 (x198.1 + 1))), (.int .i64 b_2), (.int .i64 limit_3)] (.tup []) fun (x200 : Unit) =>
 c1 (a_1, x198.1, limit_3, decide ((w64 (b_2 - x198.1)) ≥ (w64 ((w64 (b_2 - a_1)).tdiv 8))), x198.2.1, ()) (data_0, ()))))
 (mcall P n_zf4w [(Sl.v data_0), (.int .i64 a_1), (.int .i64 b_2), (.int .i64 x104.1)] (.tup [I, .b]) fun (x201 : Int × Bool × Unit) =>
 mif (decide ((w64 (x201.1 - a_1)) < (w64 (b_2 - x201.1))))
 (mcall P n_zf45 [(Sl.v data_0), (.int .i64 a_1), (.int .i64 x201.1), (.int .i64 limit_3)] (.tup []) fun (x202 : Unit) =>
 c1 (w64 (x201.1 + 1), b_2, limit_3, decide ((w64 (x201.1 - a_1)) ≥ (w64 ((w64 (b_2 - a_1)).tdiv 8))), x201.2.1, ()) (data_0, ()))
 (mcall P n_zf45 [(Sl.v data_0), (.int .i64 (w64 (x201.1 + 1))), (.int .i64 b_2), (.int .i64 limit_3)] (.tup []) fun (x203 : Unit) =>
 c1 (a_1, x201.1, limit_3, decide ((w64 (b_2 - x201.1)) ≥ (w64 ((w64 (b_2 - a_1)).tdiv 8))), x201.2.1, ()) (data_0, ()))))))))
def zf45_1 (R : Unit → World → Prop) (a_1 : Int) (b_2 : Int) (limit_3 : Int) (wasBalanced_8 : Bool) (wasPartitioned_9 : Bool) (data_0 : Sl) : World → Prop :=
 W.Loop (data_0, ()) (fun (c1 : (Int × Int × Int × Bool × Bool × Unit) → (Sl × Unit) → World → Prop) (s : Int × Int × Int × Bool × Bool × Unit) => zf45_2 c1 R s.1 s.2.1 s.2.2.1 s.2.2.2.1 s.2.2.2.2.1 data_0) (a_1, b_2, limit_3, wasBalanced_8, wasPartitioned_9, ())
def zf45_0 (R : Unit → World → Prop) (data_0 : Sl) (a_1 : Int) (b_2 : Int) (limit_3 : Int) : World → Prop :=
 zf45_1 R a_1 b_2 limit_3 true true data_0
theorem zf45_2_ok (c1 : (Int × Int × Int × Bool × Bool × Unit) → (Sl × Unit) → World → Prop) (R : Unit → World → Prop) (x : Int × Int × Int × Bool × Bool × Unit) (y : Sl × Unit) (w : World) (h : zf45_2 c1 R x.1 x.2.1 x.2.2.1 x.2.2.2.1 x.2.2.2.2.1 y.1 w) : WPC P 134 [] (Code.at zf45_B [.snd, .snd, .blk, .blk]) (zf45_q2 c1 R) (mkE2 134 zf45_l2 zf45_l3 x y) w :=
  pc_end h
theorem zf45_1_ok (R : Unit → World → Prop) (x : Int × Int × Int × Bool × Bool × Unit) (y : Sl × Unit) (w : World) (h : zf45_1 R x.1 x.2.1 x.2.2.1 x.2.2.2.1 x.2.2.2.2.1 y.1 w) : WPC P 134 [] (Code.at zf45_B [.snd, .snd]) (zf45_q1 R) (mkE2 134 zf45_l2 zf45_l3 x y) w :=
  pc_loopE (l := zf45_l2) (l' := zf45_l3) (id := 0) (b := (Code.at zf45_B [.snd, .snd, .blk, .blk])) (fun c1 s => zf45_2_ok c1 R s y) h
theorem zf45_0_ok (R : Unit → World → Prop) (x : Sl × Int × Int × Int × Unit) (w : World) (h : zf45_0 R x.1 x.2.1 x.2.2.1 x.2.2.2.1 w) : WPC P 134 [] (Code.at zf45_B []) (zf45_q1 R) (mkE 134 zf45_l1 x) w :=
  pc_cut2 (l := zf45_l2) (l' := zf45_l3) 2 (zf45_1_ok R) h
theorem zf45_call (R : Unit → World → Prop) (data_0 : Sl) (a_1 : Int) (b_2 : Int) (limit_3 : Int) (w : World) (h : zf45_0 R data_0 a_1 b_2 limit_3 w) : mcall P n_zf45 [(Sl.v data_0), (.int .i64 a_1), (.int .i64 b_2), (.int .i64 limit_3)] (.tup []) R w :=
  pc_top (l := zf45_l1) (c := zf45_B) Tryz.func155 (zf45_0_ok R) h
noncomputable abbrev zf46_B : Code := (Tryz.f156.body).getD .skip
abbrev zf46_q1 (R : Int → World → Prop) := (topQ P [.tmp 2] I R)
abbrev zf46_l1 : Slots := [(0, (.i .u64))]
def zf46_0 (R : Int → World → Prop) (x_0 : Int) : World → Prop :=
 mcall P n_zf4x [(.int .u64 x_0)] I fun (x1 : Int) =>
 R x1
theorem zf46_0_ok (R : Int → World → Prop) (x : Int × Unit) (w : World) (h : zf46_0 R x.1 w) : WPC P 8 [] (Code.at zf46_B []) (zf46_q1 R) (mkE 8 zf46_l1 x) w :=
  pc_end h
theorem zf46_call (R : Int → World → Prop) (x_0 : Int) (w : World) (h : zf46_0 R x_0 w) : mcall P n_zf46 [(.int .u64 x_0)] I R w :=
  pc_top (l := zf46_l1) (c := zf46_B) Tryz.func156 (zf46_0_ok R) h
noncomputable abbrev zf47_B : Code := (Tryz.f157.body).getD .skip
abbrev zf47_q1 (R : (Bs × Bs × Int × Unit) → World → Prop) := (topQ P [.tmp 4, .tmp 5, .tmp 6] (.tup [.s, .s, I]) R)
abbrev zf47_l1 : Slots := [(0, .s), (1, I)]
def zf47_0 (R : (Bs × Bs × Int × Unit) → World → Prop) (s_0 : Bs) (most_1 : Int) : World → Prop :=
 mcall P n_zf27 [(.string ⟨s_0.toArray⟩)] (.tup [I, .s, I]) fun (x1 : Int × Bs × Int × Unit) =>
 mif (x1.2.2.1 != 0)
 (R ([], [], 2, ()))
 (mif (decide (x1.1 < 0))
 (R ([], [], 2, ()))
 (mif (decide (x1.1 > most_1))
 (R ([], [], 2, ()))
 (mif (decide (x1.1 > (x1.2.1.length : Int)))
 (R ([], [], 2, ()))
 (mdraw <|
 sls P zt4 x1.2.1 none (some x1.1) fun x2 =>
 sls P zt4 x1.2.1 (some x1.1) none fun x3 =>
 R (x2, x3, 0, ())))))
theorem zf47_0_ok (R : (Bs × Bs × Int × Unit) → World → Prop) (x : Bs × Int × Unit) (w : World) (h : zf47_0 R x.1 x.2.1 w) : WPC P 39 [] (Code.at zf47_B []) (zf47_q1 R) (mkE 39 zf47_l1 x) w :=
  pc_end h
theorem zf47_call (R : (Bs × Bs × Int × Unit) → World → Prop) (s_0 : Bs) (most_1 : Int) (w : World) (h : zf47_0 R s_0 most_1 w) : mcall P n_zf47 [(.string ⟨s_0.toArray⟩), (.int .i64 most_1)] (.tup [.s, .s, I]) R w :=
  pc_top (l := zf47_l1) (c := zf47_B) Tryz.func157 (zf47_0_ok R) h
noncomputable abbrev zf48_B : Code := (Tryz.f158.body).getD .skip
abbrev zf48_q1 (R : Bool → World → Prop) := (topQ P [.tmp 2] .b R)
abbrev zf48_l1 : Slots := [(0, zk2)]
def zf48_0 (R : Bool → World → Prop) (r_0 : zT2) : World → Prop :=
 bx P ztc zk2 r_0 fun a1 =>
 ld P zt1 a1 I fun (x2 : Int) =>
 ld P zt1 (ad a1 1) I fun (x3 : Int) =>
 bsl P zt7 I [x2, x3] fun x4 =>
 mcall P n_zf4c [(Sl.v x4)] .b fun (x5 : Bool) =>
 mif x5
 (ld P zt1 a1 I fun (x6 : Int) =>
 mif (decide (x6 ≤ 1048576))
 (ld P zt4 (ad a1 2) .s fun (x7 : Bs) =>
 R (decide ((x7.length : Int) ≤ 512)))
 (R false))
 (R false)
theorem zf48_0_ok (R : Bool → World → Prop) (x : zT2 × Unit) (w : World) (h : zf48_0 R x.1 w) : WPC P 20 [] (Code.at zf48_B []) (zf48_q1 R) (mkE 20 zf48_l1 x) w :=
  pc_end h
theorem zf48_call (R : Bool → World → Prop) (r_0 : zT2) (w : World) (h : zf48_0 R r_0 w) : mcall P n_zf48 [(KV zk2 r_0)] .b R w :=
  pc_top (l := zf48_l1) (c := zf48_B) Tryz.func158 (zf48_0_ok R) h
noncomputable abbrev zf49_B : Code := (Tryz.f160.body).getD .skip
abbrev zf49_q1 (R : Unit → World → Prop) := (topQ P [] (.tup []) R)
abbrev zf49_l1 : Slots := [(0, .p), (1, zk2), (2, I)]
abbrev zf49_l2 : Slots := [(0, .p), (2, I)]
def zf49_1 (R : Unit → World → Prop) (s_0 : Option Addr) (bytes_2 : Int) : World → Prop :=
 mnil s_0 fun a30 =>
 ld P zt1 (ad a30 1) I fun (x31 : Int) =>
 mnil s_0 fun a32 =>
 sto P zt1 (ad a32 1) I (w64 (x31 + bytes_2)) <|
 mnil s_0 fun a33 =>
 ld P zt1 (ad a33 2) I fun (x34 : Int) =>
 mnil s_0 fun a35 =>
 sto P zt1 (ad a35 2) I (w64 (x34 + 1)) <|
 R (())
def zf49_0 (R : Unit → World → Prop) (s_0 : Option Addr) (e_1 : zT2) (bytes_2 : Int) : World → Prop :=
 bx P zty zk2 e_1 fun a1 =>
 mnil s_0 fun a2 =>
 ld P zt14 (ad a2 3) .sl fun (x3 : Sl) =>
 mdraw <|
 mif ((x3.len : Int) == 0)
 (mdraw <|
 mnil s_0 fun a4 =>
 ld P zt14 (ad a4 3) .sl fun (x5 : Sl) =>
 ld P zt1 a1 I fun (x6 : Int) =>
 mnil s_0 fun a7 =>
 ld P zt1 a7 I fun (x8 : Int) =>
 mnil s_0 fun a9 =>
 ld P zt1 (ad a9 1) I fun (x10 : Int) =>
 bsl P zt14 zk0 [(x6, x8, x10, ())] fun x11 =>
 mst P (Instr.loadAt zt14 (.pointer (some (ad a4 3)))) (.slice x5.a x5.len x5.cap) <|
 app P #[zt14, zt14] zt14 (Sl.v x5) (Sl.v x11) fun x12 =>
 mnil s_0 fun a13 =>
 sto P zt14 (ad a13 3) .sl x12 <|
 zf49_1 R s_0 bytes_2)
 (mnil s_0 fun a14 =>
 ld P zt1 (ad a14 1) I fun (x15 : Int) =>
 mnil s_0 fun a16 =>
 ld P zt14 (ad a16 3) .sl fun (x17 : Sl) =>
 ixa P zt14 (Sl.v x17) (w64 ((x3.len : Int) - 1)) fun x18 =>
 ld P zt1 (ad x18 2) I fun (x19 : Int) =>
 mif (decide ((w64 (x15 - x19)) ≥ 256))
 (mdraw <|
 mnil s_0 fun a20 =>
 ld P zt14 (ad a20 3) .sl fun (x21 : Sl) =>
 ld P zt1 a1 I fun (x22 : Int) =>
 mnil s_0 fun a23 =>
 ld P zt1 a23 I fun (x24 : Int) =>
 mnil s_0 fun a25 =>
 ld P zt1 (ad a25 1) I fun (x26 : Int) =>
 bsl P zt14 zk0 [(x22, x24, x26, ())] fun x27 =>
 mst P (Instr.loadAt zt14 (.pointer (some (ad a20 3)))) (.slice x21.a x21.len x21.cap) <|
 app P #[zt14, zt14] zt14 (Sl.v x21) (Sl.v x27) fun x28 =>
 mnil s_0 fun a29 =>
 sto P zt14 (ad a29 3) .sl x28 <|
 zf49_1 R s_0 bytes_2)
 (zf49_1 R s_0 bytes_2))
theorem zf49_1_ok (R : Unit → World → Prop) (x : Option Addr × Int × Unit) (w : World) (h : zf49_1 R x.1 x.2.1 w) : WPC P 73 [] (Code.at zf49_B [.snd, .snd]) (zf49_q1 R) (mkE 73 zf49_l2 x) w :=
  pc_end h
theorem zf49_0_ok (R : Unit → World → Prop) (x : Option Addr × zT2 × Int × Unit) (w : World) (h : zf49_0 R x.1 x.2.1 x.2.2.1 w) : WPC P 73 [] (Code.at zf49_B []) (zf49_q1 R) (mkE 73 zf49_l1 x) w :=
  pc_cut (l := zf49_l2) 2 (zf49_1_ok R) h
theorem zf49_call (R : Unit → World → Prop) (s_0 : Option Addr) (e_1 : zT2) (bytes_2 : Int) (w : World) (h : zf49_0 R s_0 e_1 bytes_2 w) : mcall P n_zf49 [(.pointer s_0), (KV zk2 e_1), (.int .i64 bytes_2)] (.tup []) R w :=
  pc_top (l := zf49_l1) (c := zf49_B) Tryz.func160 (zf49_0_ok R) h
noncomputable abbrev zf4a_B : Code := (Tryz.f162.body).getD .skip
abbrev zf4a_q1 (R : Unit → World → Prop) := (topQ P [] (.tup []) R)
abbrev zf4a_l1 : Slots := [(0, .v), (1, .ad)]
abbrev zf4a_l2 : Slots := []
abbrev zf4a_l3 : Slots := [(0, .v), (1, .ad)]
abbrev zf4a_q2 (c1 : Unit → (Value × Addr × Unit) → World → Prop) (R : Unit → World → Prop) := (thenQ (fun env => getE env zf4a_l2 fun (s : Unit) => getE env zf4a_l3 (c1 s)) (blockQ 0 ((zf4a_q1 R) .normal) (zf4a_q1 R)))
def zf4a_2 (c1 : Unit → (Value × Addr × Unit) → World → Prop) (R : Unit → World → Prop) (yield_0 : Value) (v1 : Addr) : World → Prop :=
 ld P zt4 v1 .s fun (x1 : Bs) =>
 mcall P n_zf4b [(.string ⟨x1.toArray⟩)] (.tup [zk2, .s, I]) fun (x2 : zT2 × Bs × Int × Unit) =>
 alo P zty fun a3 =>
 sto P zty a3 zk2 x2.1 <|
 mif (x2.2.2.1 != 0)
 (R (()))
 (ld P zt4 v1 .s fun (x4 : Bs) =>
 ld P zty a3 zk2 fun (x5 : zT2) =>
 mdyn P yield_0 [.int .i64 (w64 ((x4.length : Int) - (x2.2.1.length : Int))), .agg #[.int .i64 x5.1, .int .i64 x5.2.1, .string ⟨x5.2.2.1.toArray⟩]] .b fun (x6 : Bool) =>
 mif (!x6)
 (R (()))
 (sto P zt4 v1 .s x2.2.1 <|
 c1 (()) (yield_0, v1, ())))
def zf4a_1 (R : Unit → World → Prop) (yield_0 : Value) (v1 : Addr) : World → Prop :=
 W.Loop (yield_0, v1, ()) (fun (c1 : Unit → (Value × Addr × Unit) → World → Prop) (s : Unit) => zf4a_2 c1 R yield_0 v1) (())
def zf4a_0 (R : Unit → World → Prop) (yield_0 : Value) (v1 : Addr) : World → Prop :=
 zf4a_1 R yield_0 v1
theorem zf4a_2_ok (c1 : Unit → (Value × Addr × Unit) → World → Prop) (R : Unit → World → Prop) (x : Unit) (y : Value × Addr × Unit) (w : World) (h : zf4a_2 c1 R y.1 y.2.1 w) : WPC P 26 [] (Code.at zf4a_B [.blk, .blk]) (zf4a_q2 c1 R) (mkE2 26 zf4a_l2 zf4a_l3 x y) w :=
  pc_end h
theorem zf4a_1_ok (R : Unit → World → Prop) (x : Unit) (y : Value × Addr × Unit) (w : World) (h : zf4a_1 R y.1 y.2.1 w) : WPC P 26 [] (Code.at zf4a_B []) (zf4a_q1 R) (mkE2 26 zf4a_l2 zf4a_l3 x y) w :=
  pc_loopE (l := zf4a_l2) (l' := zf4a_l3) (id := 0) (b := (Code.at zf4a_B [.blk, .blk])) (fun c1 s => zf4a_2_ok c1 R s y) h
theorem zf4a_0_ok (R : Unit → World → Prop) (x : Value × Addr × Unit) (w : World) (h : zf4a_0 R x.1 x.2.1 w) : WPC P 26 [] (Code.at zf4a_B []) (zf4a_q1 R) (mkE 26 zf4a_l1 x) w :=
  pc_cut2 (l := zf4a_l2) (l' := zf4a_l3) 0 (zf4a_1_ok R) h
theorem zf4a_call (R : Unit → World → Prop) (yield_0 : Value) (v1 : Addr) (w : World) (h : zf4a_0 R yield_0 v1 w) : mcall P n_zf4a [yield_0, .pointer (some v1)] (.tup []) R w :=
  pc_top (l := zf4a_l1) (c := zf4a_B) Tryz.func162 (zf4a_0_ok R) h
noncomputable abbrev zf4b_B : Code := (Tryz.f163.body).getD .skip
abbrev zf4b_q1 (R : (zT2 × Bs × Int × Unit) → World → Prop) := (topQ P [.cell 2 zty, .tmp 3, .tmp 4] (.tup [zk2, .s, I]) R)
abbrev zf4b_l1 : Slots := [(0, .s)]
def zf4b_0 (R : (zT2 × Bs × Int × Unit) → World → Prop) (s_0 : Bs) : World → Prop :=
 alo P zty fun a1 =>
 mcall P n_zf47 [(.string ⟨s_0.toArray⟩), (.int .i64 131072)] (.tup [.s, .s, I]) fun (x2 : Bs × Bs × Int × Unit) =>
 mif (x2.2.2.1 != 0)
 (sto P zty a1 zk2 (0, 0, [], ()) <|
 ld P zty a1 zk2 fun (x3 : zT2) =>
 R (x3, [], 2, ()))
 (mif (decide ((x2.2.1.length : Int) < 4))
 (sto P zty a1 zk2 (0, 0, [], ()) <|
 ld P zty a1 zk2 fun (x4 : zT2) =>
 R (x4, [], 2, ()))
 (sls P zt4 s_0 none (some (w64 ((w64 ((s_0.length : Int) - (x2.2.1.length : Int))) + 4))) fun x5 =>
 mcall P n_zf2x [(.string ⟨x5.toArray⟩)] (.tup [.s, I]) fun (x6 : Bs × Int × Unit) =>
 mif (x6.2.1 != 0)
 (sto P zty a1 zk2 (0, 0, [], ()) <|
 ld P zty a1 zk2 fun (x7 : zT2) =>
 R (x7, [], x6.2.1, ()))
 (mcall P n_zf47 [(.string ⟨x6.1.toArray⟩), (.int .i64 (x6.1.length : Int))] (.tup [.s, .s, I]) fun (x8 : Bs × Bs × Int × Unit) =>
 mcall P n_zf2z [(.string ⟨x8.1.toArray⟩), (.int .i64 2)] (.tup [.sl, .s, I]) fun (x9 : Sl × Bs × Int × Unit) =>
 mif (x9.2.2.1 != 0)
 (sto P zty a1 zk2 (0, 0, [], ()) <|
 ld P zty a1 zk2 fun (x10 : zT2) =>
 R (x10, [], x9.2.2.1, ()))
 (mdraw <|
 ixa P zt7 (Sl.v x9.1) 0 fun x11 =>
 ld P zt1 x11 I fun (x12 : Int) =>
 ixa P zt7 (Sl.v x9.1) 1 fun x13 =>
 ld P zt1 x13 I fun (x14 : Int) =>
 alo P zty fun a15 =>
 mst P (Instr.loadAt zt1 (.pointer (some x13))) (.int .i64 x14) <|
 mst P (Instr.indexAt zt7 (.slice x9.1.a x9.1.len x9.1.cap) (.int .i64 1)) (.pointer (some x13)) <|
 mst P (Instr.loadAt zt1 (.pointer (some x11))) (.int .i64 x12) <|
 mst P (Instr.indexAt zt7 (.slice x9.1.a x9.1.len x9.1.cap) (.int .i64 0)) (.pointer (some x11)) <|
 sto P zty a15 zk2 (x12, x14, x9.2.1, ()) <|
 ld P zty a15 zk2 fun (x16 : zT2) =>
 mcall P n_zf4y [(KV zk2 x16)] I fun (x17 : Int) =>
 mif (x17 != 0)
 (sto P zty a1 zk2 (0, 0, [], ()) <|
 ld P zty a1 zk2 fun (x18 : zT2) =>
 R (x18, [], 2, ()))
 (mdraw <|
 ld P zty a15 zk2 fun (x19 : zT2) =>
 sls P zt4 x2.2.1 (some 4) none fun x20 =>
 sto P zty a1 zk2 x19 <|
 mst P (Instr.sliceAt zt4 (.string ⟨x2.2.1.toArray⟩) (some (.int .i64 4)) none none) (.string ⟨x20.toArray⟩) <|
 ld P zty a1 zk2 fun (x21 : zT2) =>
 R (x21, x20, 0, ()))))))
theorem zf4b_0_ok (R : (zT2 × Bs × Int × Unit) → World → Prop) (x : Bs × Unit) (w : World) (h : zf4b_0 R x.1 w) : WPC P 80 [] (Code.at zf4b_B []) (zf4b_q1 R) (mkE 80 zf4b_l1 x) w :=
  pc_end h
theorem zf4b_call (R : (zT2 × Bs × Int × Unit) → World → Prop) (s_0 : Bs) (w : World) (h : zf4b_0 R s_0 w) : mcall P n_zf4b [(.string ⟨s_0.toArray⟩)] (.tup [zk2, .s, I]) R w :=
  pc_top (l := zf4b_l1) (c := zf4b_B) Tryz.func163 (zf4b_0_ok R) h
noncomputable abbrev zf4c_B : Code := (Tryz.f164.body).getD .skip
abbrev zf4c_q1 (R : Bool → World → Prop) := (topQ P [.tmp 2] .b R)
abbrev zf4c_l1 : Slots := [(0, .sl)]
def zf4c_0 (R : Bool → World → Prop) (l_0 : Sl) : World → Prop :=
 mcall P n_zf25 [(Sl.v l_0), (.func (.func n_zf4z) #[] #[])] .b fun (x1 : Bool) =>
 R (!x1)
theorem zf4c_0_ok (R : Bool → World → Prop) (x : Sl × Unit) (w : World) (h : zf4c_0 R x.1 w) : WPC P 6 [] (Code.at zf4c_B []) (zf4c_q1 R) (mkE 6 zf4c_l1 x) w :=
  pc_end h
theorem zf4c_call (R : Bool → World → Prop) (l_0 : Sl) (w : World) (h : zf4c_0 R l_0 w) : mcall P n_zf4c [(Sl.v l_0)] .b R w :=
  pc_top (l := zf4c_l1) (c := zf4c_B) Tryz.func164 (zf4c_0_ok R) h
noncomputable abbrev zf4d_B : Code := (Tryz.f165.body).getD .skip
abbrev zf4d_q1 (R : Sl → World → Prop) := (topQ P [.tmp 2] .sl R)
abbrev zf4d_l1 : Slots := [(0, .sl)]
def zf4d_0 (R : Sl → World → Prop) (s_0 : Sl) : World → Prop :=
 meq P .eql ztt (Sl.v s_0) (Sl.v ⟨none, 0, 0⟩) fun x1 =>
 mif x1
 (R ⟨none, 0, 0⟩)
 (bsl P ztt zkd [] fun x2 =>
 app P #[ztt, ztt] ztt (Sl.v x2) (Sl.v s_0) fun x3 =>
 R x3)
theorem zf4d_0_ok (R : Sl → World → Prop) (x : Sl × Unit) (w : World) (h : zf4d_0 R x.1 w) : WPC P 8 [] (Code.at zf4d_B []) (zf4d_q1 R) (mkE 8 zf4d_l1 x) w :=
  pc_end h
theorem zf4d_call (R : Sl → World → Prop) (s_0 : Sl) (w : World) (h : zf4d_0 R s_0 w) : mcall P n_zf4d [(Sl.v s_0)] .sl R w :=
  pc_top (l := zf4d_l1) (c := zf4d_B) Tryz.func165 (zf4d_0_ok R) h
end Go.Proofs.YtpjhflboedicpaaGreatDoor
