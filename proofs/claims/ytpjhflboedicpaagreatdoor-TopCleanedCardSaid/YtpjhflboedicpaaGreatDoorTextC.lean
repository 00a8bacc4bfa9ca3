/- Short texts of functions of the program, each with the proof that a call comes to it. No condition. -/
import Derived.Test.YtpjhflboedicpaaGreatDoorNames
set_option linter.unusedVariables false
set_option linter.unusedSimpArgs false
namespace Go.Proofs.YtpjhflboedicpaaGreatDoor
open Go Go.W
set_option maxRecDepth 100000
noncomputable abbrev zfc_B : Code := (Tryz.f15.body).getD .skip
abbrev zfc_q1 (R : Unit → World → Prop) := (topQ P [] (.tup []) R)
abbrev zfc_l1 : Slots := [(0, .p), (1, .sl)]
abbrev zfc_l2 : Slots := [(0, .p), (1, .sl)]
abbrev zfc_l3 : Slots := [(0, .p)]
def zfc_2 (R : Unit → World → Prop) (d_0 : Option Addr) : World → Prop :=
 mnil d_0 fun a2 =>
 sto P zt2 (ad a2 3) .b false <|
 mnil d_0 fun a3 =>
 sto P zt1 (ad a3 2) I (-1) <|
 R (())
abbrev zfc_q2 (R : Unit → World → Prop) := (thenQ (fun env => getE env zfc_l3 fun (x : Option Addr × Unit) => zfc_2 R x.1) (zfc_q1 R))
abbrev zfc_l4 : Slots := [(0, .p), (1, .sl)]
abbrev zfc_l5 : Slots := [(17, I)]
abbrev zfc_l6 : Slots := [(0, .p), (1, .sl), (15, .sl), (16, I)]
abbrev zfc_q3 (c1 : (Int × Unit) → (Option Addr × Sl × Sl × Int × Unit) → World → Prop) (R : Unit → World → Prop) := (thenQ (fun env => getE env zfc_l5 fun (s : Int × Unit) => getE env zfc_l6 (c1 s)) (blockQ 0 ((zfc_q2 R) .normal) (zfc_q2 R)))
abbrev zfc_l7 : Slots := [(0, .p), (1, .sl), (15, .sl), (16, I), (17, I)]
def zfc_6 (c1 : (Int × Unit) → (Option Addr × Sl × Sl × Int × Unit) → World → Prop) (R : Unit → World → Prop) (d_0 : Option Addr) (keep_1 : Sl) (v15 : Sl) (v16 : Int) (v17 : Int) : World → Prop :=
 c1 (w64 (v17 + 1), ()) (d_0, keep_1, v15, v16, ())
def zfc_5 (c1 : (Int × Unit) → (Option Addr × Sl × Sl × Int × Unit) → World → Prop) (R : Unit → World → Prop) (v17 : Int) (d_0 : Option Addr) (keep_1 : Sl) (v15 : Sl) (v16 : Int) : World → Prop :=
 mif (decide (v17 < v16))
 (ixa P ztp (Sl.v v15) v17 fun x8 =>
 ld P zt4 x8 .s fun (x9 : Bs) =>
 mnil d_0 fun a10 =>
 ld P ztk a10 .m fun (x11 : Option Nat) =>
 lku P ztk x11 .s x9 .p fun (x12 : Option Addr) =>
 mif (decide (v17 < (keep_1.len : Int)))
 (mdraw <|
 ixa P zt7 (Sl.v keep_1) v17 fun x13 =>
 ld P zt1 x13 I fun (x14 : Int) =>
 mnil x12 fun a15 =>
 ld P zt4 (ad a15 1) .s fun (x16 : Bs) =>
 mdraw <|
 mnil d_0 fun a17 =>
 ld P zt1 (ad a17 1) I fun (x18 : Int) =>
 mcall P n_zf1k [(.pointer x12)] I fun (x19 : Int) =>
 mst P (Instr.loadAt zt1 (.pointer (some (ad a17 1)))) (.int .i64 x18) <|
 mcall P n_zf1j [(.int .i64 x19)] I fun (x20 : Int) =>
 mst P (Instr.loadAt zt1 (.pointer (some (ad a17 1)))) (.int .i64 x18) <|
 mnil d_0 fun a21 =>
 sto P zt1 (ad a21 1) I (w64 (x18 + x20)) <|
 mdraw <|
 mnil x12 fun a22 =>
 ld P zt4 a22 .s fun (x23 : Bs) =>
 mnil x12 fun a24 =>
 ld P zt4 (ad a24 1) .s fun (x25 : Bs) =>
 sls P zt4 x25 none (some (mx 0 (mn x14 (x16.length : Int)))) fun x26 =>
 mcat x23 x26 fun s27 =>
 mnil x12 fun a28 =>
 sto P zt4 a28 .s s27 <|
 mnil x12 fun a29 =>
 sto P zt4 (ad a29 1) .s [] <|
 mdraw <|
 mnil d_0 fun a30 =>
 ld P zt1 (ad a30 1) I fun (x31 : Int) =>
 mcall P n_zf1k [(.pointer x12)] I fun (x32 : Int) =>
 mst P (Instr.loadAt zt1 (.pointer (some (ad a30 1)))) (.int .i64 x31) <|
 mcall P n_zf1j [(.int .i64 x32)] I fun (x33 : Int) =>
 mst P (Instr.loadAt zt1 (.pointer (some (ad a30 1)))) (.int .i64 x31) <|
 mnil d_0 fun a34 =>
 sto P zt1 (ad a34 1) I (w64 (x31 - x33)) <|
 zfc_6 c1 R d_0 keep_1 v15 v16 v17)
 (mdraw <|
 mnil d_0 fun a35 =>
 ld P zt1 (ad a35 1) I fun (x36 : Int) =>
 mcall P n_zf1k [(.pointer x12)] I fun (x37 : Int) =>
 mst P (Instr.loadAt zt1 (.pointer (some (ad a35 1)))) (.int .i64 x36) <|
 mcall P n_zf1j [(.int .i64 x37)] I fun (x38 : Int) =>
 mst P (Instr.loadAt zt1 (.pointer (some (ad a35 1)))) (.int .i64 x36) <|
 mnil d_0 fun a39 =>
 sto P zt1 (ad a39 1) I (w64 (x36 + x38)) <|
 mdraw <|
 mnil x12 fun a40 =>
 ld P zt4 a40 .s fun (x41 : Bs) =>
 mnil x12 fun a42 =>
 ld P zt4 (ad a42 1) .s fun (x43 : Bs) =>
 sls P zt4 x43 none (some 0) fun x44 =>
 mcat x41 x44 fun s45 =>
 mnil x12 fun a46 =>
 sto P zt4 a46 .s s45 <|
 mnil x12 fun a47 =>
 sto P zt4 (ad a47 1) .s [] <|
 mdraw <|
 mnil d_0 fun a48 =>
 ld P zt1 (ad a48 1) I fun (x49 : Int) =>
 mcall P n_zf1k [(.pointer x12)] I fun (x50 : Int) =>
 mst P (Instr.loadAt zt1 (.pointer (some (ad a48 1)))) (.int .i64 x49) <|
 mcall P n_zf1j [(.int .i64 x50)] I fun (x51 : Int) =>
 mst P (Instr.loadAt zt1 (.pointer (some (ad a48 1)))) (.int .i64 x49) <|
 mnil d_0 fun a52 =>
 sto P zt1 (ad a52 1) I (w64 (x49 - x51)) <|
 zfc_6 c1 R d_0 keep_1 v15 v16 v17))
 (zfc_2 R d_0)
def zfc_4 (R : Unit → World → Prop) (v17 : Int) (d_0 : Option Addr) (keep_1 : Sl) (v15 : Sl) (v16 : Int) : World → Prop :=
 W.Loop (d_0, keep_1, v15, v16, ()) (fun (c1 : (Int × Unit) → (Option Addr × Sl × Sl × Int × Unit) → World → Prop) (s : Int × Unit) => zfc_5 c1 R s.1 d_0 keep_1 v15 v16) (v17, ())
def zfc_3 (R : Unit → World → Prop) (d_0 : Option Addr) (keep_1 : Sl) : World → Prop :=
 mnil d_0 fun a4 =>
 ld P ztk a4 .m fun (x5 : Option Nat) =>
 mcall P n_zf1i [(.map x5)] .v fun (x6 : Value) =>
 mcall P n_zf1h [x6] .sl fun (x7 : Sl) =>
 zfc_4 R 0 d_0 keep_1 x7 (x7.len : Int)
def zfc_1 (R : Unit → World → Prop) (d_0 : Option Addr) (keep_1 : Sl) : World → Prop :=
 zfc_3 R d_0 keep_1
def zfc_0 (R : Unit → World → Prop) (d_0 : Option Addr) (keep_1 : Sl) : World → Prop :=
 meq P .eql zte (.pointer d_0) (.pointer none) fun x1 =>
 mif x1
 (R (()))
 (zfc_1 R d_0 keep_1)
theorem zfc_2_ok (R : Unit → World → Prop) (x : Option Addr × Unit) (w : World) (h : zfc_2 R x.1 w) : WPC P 87 [] (Code.at zfc_B [.snd, .snd]) (zfc_q1 R) (mkE 87 zfc_l3 x) w :=
  pc_end h
theorem zfc_6_ok (c1 : (Int × Unit) → (Option Addr × Sl × Sl × Int × Unit) → World → Prop) (R : Unit → World → Prop) (x : Option Addr × Sl × Sl × Int × Int × Unit) (w : World) (h : zfc_6 c1 R x.1 x.2.1 x.2.2.1 x.2.2.2.1 x.2.2.2.2.1 w) : WPC P 87 [] (Code.at zfc_B [.snd, .fst, .snd, .blk, .blk, .snd, .snd, .snd]) (zfc_q3 c1 R) (mkE 87 zfc_l7 x) w :=
  pc_end h
theorem zfc_5_ok (c1 : (Int × Unit) → (Option Addr × Sl × Sl × Int × Unit) → World → Prop) (R : Unit → World → Prop) (x : Int × Unit) (y : Option Addr × Sl × Sl × Int × Unit) (w : World) (h : zfc_5 c1 R x.1 y.1 y.2.1 y.2.2.1 y.2.2.2.1 w) : WPC P 87 [] (Code.at zfc_B [.snd, .fst, .snd, .blk, .blk]) (zfc_q3 c1 R) (mkE2 87 zfc_l5 zfc_l6 x y) w :=
  pc_cut (l := zfc_l7) 3 (zfc_6_ok c1 R) h
theorem zfc_4_ok (R : Unit → World → Prop) (x : Int × Unit) (y : Option Addr × Sl × Sl × Int × Unit) (w : World) (h : zfc_4 R x.1 y.1 y.2.1 y.2.2.1 y.2.2.2.1 w) : WPC P 87 [] (Code.at zfc_B [.snd, .fst, .snd]) (zfc_q2 R) (mkE2 87 zfc_l5 zfc_l6 x y) w :=
  pc_loopE (l := zfc_l5) (l' := zfc_l6) (id := 0) (b := (Code.at zfc_B [.snd, .fst, .snd, .blk, .blk])) (fun c1 s => zfc_5_ok c1 R s y) h
theorem zfc_3_ok (R : Unit → World → Prop) (x : Option Addr × Sl × Unit) (w : World) (h : zfc_3 R x.1 x.2.1 w) : WPC P 87 [] (Code.at zfc_B [.snd, .fst]) (zfc_q2 R) (mkE 87 zfc_l4 x) w :=
  pc_cut2 (l := zfc_l5) (l' := zfc_l6) 1 (zfc_4_ok R) h
theorem zfc_1_ok (R : Unit → World → Prop) (x : Option Addr × Sl × Unit) (w : World) (h : zfc_1 R x.1 x.2.1 w) : WPC P 87 [] (Code.at zfc_B [.snd]) (zfc_q1 R) (mkE 87 zfc_l2 x) w :=
  pc_seq (l := zfc_l3) (a := (Code.at zfc_B [.snd, .fst])) (b := (Code.at zfc_B [.snd, .snd])) (pc_cut (l := zfc_l4) (c := (Code.at zfc_B [.snd, .fst])) 0 (zfc_3_ok R) h) (zfc_2_ok R)
theorem zfc_0_ok (R : Unit → World → Prop) (x : Option Addr × Sl × Unit) (w : World) (h : zfc_0 R x.1 x.2.1 w) : WPC P 87 [] (Code.at zfc_B []) (zfc_q1 R) (mkE 87 zfc_l1 x) w :=
  pc_cut (l := zfc_l2) 1 (zfc_1_ok R) h
theorem zfc_call (R : Unit → World → Prop) (d_0 : Option Addr) (keep_1 : Sl) (w : World) (h : zfc_0 R d_0 keep_1 w) : mcall P n_zfc [(.pointer d_0), (Sl.v keep_1)] (.tup []) R w :=
  pc_top (l := zfc_l1) (c := zfc_B) Tryz.func15 (zfc_0_ok R) h
noncomputable abbrev zfd_B : Code := (Tryz.f16.body).getD .skip
abbrev zfd_q1 (R : (Sl × Int × Unit) → World → Prop) := (topQ P [.tmp 4, .tmp 5] (.tup [.sl, I]) R)
abbrev zfd_l1 : Slots := [(0, .p), (1, .s)]
def zfd_0 (R : (Sl × Int × Unit) → World → Prop) (d_0 : Option Addr) (name_1 : Bs) : World → Prop :=
 meq P .eql zte (.pointer d_0) (.pointer none) fun x1 =>
 mif x1
 (R (⟨none, 0, 0⟩, 1, ()))
 (mcall P n_zf17 [(.string ⟨name_1.toArray⟩)] .b fun (x2 : Bool) =>
 mif (!x2)
 (R (⟨none, 0, 0⟩, 1, ()))
 (mcall P n_zf1l [(.pointer d_0), (.string ⟨name_1.toArray⟩)] (.tup [.s, I]) fun (x3 : Bs × Int × Unit) =>
 mif (x3.2.1 != 0)
 (R (⟨none, 0, 0⟩, x3.2.1, ()))
 (mcall P n_zf1m [(.string ⟨x3.1.toArray⟩)] (.tup [.sl, I]) fun (x4 : Sl × Int × Unit) =>
 R (x4.1, x4.2.1, ()))))
theorem zfd_0_ok (R : (Sl × Int × Unit) → World → Prop) (x : Option Addr × Bs × Unit) (w : World) (h : zfd_0 R x.1 x.2.1 w) : WPC P 28 [] (Code.at zfd_B []) (zfd_q1 R) (mkE 28 zfd_l1 x) w :=
  pc_end h
theorem zfd_call (R : (Sl × Int × Unit) → World → Prop) (d_0 : Option Addr) (name_1 : Bs) (w : World) (h : zfd_0 R d_0 name_1 w) : mcall P n_zfd [(.pointer d_0), (.string ⟨name_1.toArray⟩)] (.tup [.sl, I]) R w :=
  pc_top (l := zfd_l1) (c := zfd_B) Tryz.func16 (zfd_0_ok R) h
noncomputable abbrev zfe_B : Code := (Tryz.f17.body).getD .skip
abbrev zfe_q1 (R : (zT1 × Int × Unit) → World → Prop) := (topQ P [.cell 4 zt9, .tmp 5] (.tup [zk1, I]) R)
abbrev zfe_l1 : Slots := [(0, zk0), (1, .sl)]
abbrev zfe_l2 : Slots := [(1, .sl), (2, .ad), (4, .ad), (6, .ad)]
abbrev zfe_l3 : Slots := [(2, .ad), (4, .ad), (6, .ad)]
def zfe_2 (R : (zT1 × Int × Unit) → World → Prop) (g_2 : Addr) (v4 : Addr) (s_6 : Addr) : World → Prop :=
 ld P zt5 g_2 zk0 fun (x5 : zT0) =>
 ld P zt9 s_6 zk1 fun (x6 : zT1) =>
 mcall P n_zfp [(KV zk0 x5), (KV zk1 x6)] I fun (x7 : Int) =>
 mif (x7 != 0)
 (sto P zt9 v4 zk1 (0, 0, 0, 0, ⟨none, 0, 0⟩, ()) <|
 ld P zt9 v4 zk1 fun (x8 : zT1) =>
 R (x8, 2, ()))
 (ld P zt9 s_6 zk1 fun (x9 : zT1) =>
 sto P zt9 v4 zk1 x9 <|
 ld P zt9 v4 zk1 fun (x10 : zT1) =>
 R (x10, 0, ()))
abbrev zfe_q2 (R : (zT1 × Int × Unit) → World → Prop) := (thenQ (fun env => getE env zfe_l3 fun (x : Addr × Addr × Addr × Unit) => zfe_2 R x.1 x.2.1 x.2.2.1) (zfe_q1 R))
abbrev zfe_l4 : Slots := [(1, .sl), (2, .ad), (4, .ad), (6, .ad)]
abbrev zfe_l5 : Slots := [(14, I)]
abbrev zfe_l6 : Slots := [(2, .ad), (4, .ad), (6, .ad), (12, .sl), (13, I)]
abbrev zfe_q3 (c1 : (Int × Unit) → (Addr × Addr × Addr × Sl × Int × Unit) → World → Prop) (R : (zT1 × Int × Unit) → World → Prop) := (thenQ (fun env => getE env zfe_l5 fun (s : Int × Unit) => getE env zfe_l6 (c1 s)) (blockQ 0 ((zfe_q2 R) .normal) (zfe_q2 R)))
def zfe_5 (c1 : (Int × Unit) → (Addr × Addr × Addr × Sl × Int × Unit) → World → Prop) (R : (zT1 × Int × Unit) → World → Prop) (v14 : Int) (g_2 : Addr) (v4 : Addr) (s_6 : Addr) (v12 : Sl) (v13 : Int) : World → Prop :=
 mif (decide (v14 < v13))
 (ixa P zt6 (Sl.v v12) v14 fun x11 =>
 ld P ztc x11 zk2 fun (x12 : zT2) =>
 alo P ztc fun a13 =>
 sto P ztc a13 zk2 x12 <|
 ld P zt9 s_6 zk1 fun (x14 : zT1) =>
 ld P ztc a13 zk2 fun (x15 : zT2) =>
 mcall P n_zf1n [(KV zk1 x14), (KV zk2 x15)] (.tup [zk1, I]) fun (x16 : zT1 × Int × Unit) =>
 alo P zt9 fun a17 =>
 sto P zt9 a17 zk1 x16.1 <|
 mif (x16.2.1 != 0)
 (sto P zt9 v4 zk1 (0, 0, 0, 0, ⟨none, 0, 0⟩, ()) <|
 ld P zt9 v4 zk1 fun (x18 : zT1) =>
 R (x18, x16.2.1, ()))
 (ld P zt9 a17 zk1 fun (x19 : zT1) =>
 sto P zt9 s_6 zk1 x19 <|
 c1 (w64 (v14 + 1), ()) (g_2, v4, s_6, v12, v13, ())))
 (zfe_2 R g_2 v4 s_6)
def zfe_4 (R : (zT1 × Int × Unit) → World → Prop) (v14 : Int) (g_2 : Addr) (v4 : Addr) (s_6 : Addr) (v12 : Sl) (v13 : Int) : World → Prop :=
 W.Loop (g_2, v4, s_6, v12, v13, ()) (fun (c1 : (Int × Unit) → (Addr × Addr × Addr × Sl × Int × Unit) → World → Prop) (s : Int × Unit) => zfe_5 c1 R s.1 g_2 v4 s_6 v12 v13) (v14, ())
def zfe_3 (R : (zT1 × Int × Unit) → World → Prop) (l_1 : Sl) (g_2 : Addr) (v4 : Addr) (s_6 : Addr) : World → Prop :=
 zfe_4 R 0 g_2 v4 s_6 l_1 (l_1.len : Int)
def zfe_1 (R : (zT1 × Int × Unit) → World → Prop) (l_1 : Sl) (g_2 : Addr) (v4 : Addr) (s_6 : Addr) : World → Prop :=
 zfe_3 R l_1 g_2 v4 s_6
def zfe_0 (R : (zT1 × Int × Unit) → World → Prop) (g_0 : zT0) (l_1 : Sl) : World → Prop :=
 bx P zt5 zk0 g_0 fun a1 =>
 alo P zt9 fun a2 =>
 mcall P n_zf4 [] zk1 fun (x3 : zT1) =>
 alo P zt9 fun a4 =>
 sto P zt9 a4 zk1 x3 <|
 zfe_1 R l_1 a1 a2 a4
theorem zfe_2_ok (R : (zT1 × Int × Unit) → World → Prop) (x : Addr × Addr × Addr × Unit) (w : World) (h : zfe_2 R x.1 x.2.1 x.2.2.1 w) : WPC P 36 [] (Code.at zfe_B [.snd, .snd, .snd]) (zfe_q1 R) (mkE 36 zfe_l3 x) w :=
  pc_end h
theorem zfe_5_ok (c1 : (Int × Unit) → (Addr × Addr × Addr × Sl × Int × Unit) → World → Prop) (R : (zT1 × Int × Unit) → World → Prop) (x : Int × Unit) (y : Addr × Addr × Addr × Sl × Int × Unit) (w : World) (h : zfe_5 c1 R x.1 y.1 y.2.1 y.2.2.1 y.2.2.2.1 y.2.2.2.2.1 w) : WPC P 36 [] (Code.at zfe_B [.snd, .snd, .fst, .snd, .blk, .blk]) (zfe_q3 c1 R) (mkE2 36 zfe_l5 zfe_l6 x y) w :=
  pc_end h
theorem zfe_4_ok (R : (zT1 × Int × Unit) → World → Prop) (x : Int × Unit) (y : Addr × Addr × Addr × Sl × Int × Unit) (w : World) (h : zfe_4 R x.1 y.1 y.2.1 y.2.2.1 y.2.2.2.1 y.2.2.2.2.1 w) : WPC P 36 [] (Code.at zfe_B [.snd, .snd, .fst, .snd]) (zfe_q2 R) (mkE2 36 zfe_l5 zfe_l6 x y) w :=
  pc_loopE (l := zfe_l5) (l' := zfe_l6) (id := 0) (b := (Code.at zfe_B [.snd, .snd, .fst, .snd, .blk, .blk])) (fun c1 s => zfe_5_ok c1 R s y) h
theorem zfe_3_ok (R : (zT1 × Int × Unit) → World → Prop) (x : Sl × Addr × Addr × Addr × Unit) (w : World) (h : zfe_3 R x.1 x.2.1 x.2.2.1 x.2.2.2.1 w) : WPC P 36 [] (Code.at zfe_B [.snd, .snd, .fst]) (zfe_q2 R) (mkE 36 zfe_l4 x) w :=
  pc_cut2 (l := zfe_l5) (l' := zfe_l6) 1 (zfe_4_ok R) h
theorem zfe_1_ok (R : (zT1 × Int × Unit) → World → Prop) (x : Sl × Addr × Addr × Addr × Unit) (w : World) (h : zfe_1 R x.1 x.2.1 x.2.2.1 x.2.2.2.1 w) : WPC P 36 [] (Code.at zfe_B [.snd, .snd]) (zfe_q1 R) (mkE 36 zfe_l2 x) w :=
  pc_seq (l := zfe_l3) (a := (Code.at zfe_B [.snd, .snd, .fst])) (b := (Code.at zfe_B [.snd, .snd, .snd])) (pc_cut (l := zfe_l4) (c := (Code.at zfe_B [.snd, .snd, .fst])) 0 (zfe_3_ok R) h) (zfe_2_ok R)
theorem zfe_0_ok (R : (zT1 × Int × Unit) → World → Prop) (x : zT0 × Sl × Unit) (w : World) (h : zfe_0 R x.1 x.2.1 w) : WPC P 36 [] (Code.at zfe_B []) (zfe_q1 R) (mkE 36 zfe_l1 x) w :=
  pc_cut (l := zfe_l2) 2 (zfe_1_ok R) h
theorem zfe_call (R : (zT1 × Int × Unit) → World → Prop) (g_0 : zT0) (l_1 : Sl) (w : World) (h : zfe_0 R g_0 l_1 w) : mcall P n_zfe [(KV zk0 g_0), (Sl.v l_1)] (.tup [zk1, I]) R w :=
  pc_top (l := zfe_l1) (c := zfe_B) Tryz.func17 (zfe_0_ok R) h
noncomputable abbrev zff_B : Code := (Tryz.f18.body).getD .skip
abbrev zff_q1 (R : Sl → World → Prop) := (topQ P [.tmp 2] .sl R)
abbrev zff_l1 : Slots := [(0, .sl)]
abbrev zff_l2 : Slots := [(0, .sl), (3, .sl)]
abbrev zff_l3 : Slots := [(3, .sl)]
def zff_2 (R : Sl → World → Prop) (out_3 : Sl) : World → Prop :=
 R out_3
abbrev zff_q2 (R : Sl → World → Prop) := (thenQ (fun env => getE env zff_l3 fun (x : Sl × Unit) => zff_2 R x.1) (zff_q1 R))
abbrev zff_l4 : Slots := [(0, .sl), (3, .sl)]
abbrev zff_l5 : Slots := [(3, .sl), (4, I)]
abbrev zff_l6 : Slots := [(0, .sl)]
abbrev zff_q3 (c1 : (Sl × Int × Unit) → (Sl × Unit) → World → Prop) (R : Sl → World → Prop) := (thenQ (fun env => getE env zff_l5 fun (s : Sl × Int × Unit) => getE env zff_l6 (c1 s)) (blockQ 0 ((zff_q2 R) .normal) (zff_q2 R)))
def zff_5 (c1 : (Sl × Int × Unit) → (Sl × Unit) → World → Prop) (R : Sl → World → Prop) (out_3 : Sl) (i_4 : Int) (l_0 : Sl) : World → Prop :=
 mif (decide (i_4 < (l_0.len : Int)))
 (ixa P zta (Sl.v l_0) i_4 fun x1 =>
 ld P ztc (ad x1 1) zk2 fun (x2 : zT2) =>
 bsl P zt6 zk2 [x2] fun x3 =>
 app P #[zt6, zt6] zt6 (Sl.v out_3) (Sl.v x3) fun x4 =>
 c1 (x4, w64 (i_4 + 1), ()) (l_0, ()))
 (zff_2 R out_3)
def zff_4 (R : Sl → World → Prop) (out_3 : Sl) (i_4 : Int) (l_0 : Sl) : World → Prop :=
 W.Loop (l_0, ()) (fun (c1 : (Sl × Int × Unit) → (Sl × Unit) → World → Prop) (s : Sl × Int × Unit) => zff_5 c1 R s.1 s.2.1 l_0) (out_3, i_4, ())
def zff_3 (R : Sl → World → Prop) (l_0 : Sl) (out_3 : Sl) : World → Prop :=
 zff_4 R out_3 0 l_0
def zff_1 (R : Sl → World → Prop) (l_0 : Sl) (out_3 : Sl) : World → Prop :=
 zff_3 R l_0 out_3
def zff_0 (R : Sl → World → Prop) (l_0 : Sl) : World → Prop :=
 zff_1 R l_0 ⟨none, 0, 0⟩
theorem zff_2_ok (R : Sl → World → Prop) (x : Sl × Unit) (w : World) (h : zff_2 R x.1 w) : WPC P 20 [] (Code.at zff_B [.snd, .snd, .snd]) (zff_q1 R) (mkE 20 zff_l3 x) w :=
  pc_end h
theorem zff_5_ok (c1 : (Sl × Int × Unit) → (Sl × Unit) → World → Prop) (R : Sl → World → Prop) (x : Sl × Int × Unit) (y : Sl × Unit) (w : World) (h : zff_5 c1 R x.1 x.2.1 y.1 w) : WPC P 20 [] (Code.at zff_B [.snd, .snd, .fst, .snd, .blk, .blk]) (zff_q3 c1 R) (mkE2 20 zff_l5 zff_l6 x y) w :=
  pc_end h
theorem zff_4_ok (R : Sl → World → Prop) (x : Sl × Int × Unit) (y : Sl × Unit) (w : World) (h : zff_4 R x.1 x.2.1 y.1 w) : WPC P 20 [] (Code.at zff_B [.snd, .snd, .fst, .snd]) (zff_q2 R) (mkE2 20 zff_l5 zff_l6 x y) w :=
  pc_loopE (l := zff_l5) (l' := zff_l6) (id := 0) (b := (Code.at zff_B [.snd, .snd, .fst, .snd, .blk, .blk])) (fun c1 s => zff_5_ok c1 R s y) h
theorem zff_3_ok (R : Sl → World → Prop) (x : Sl × Sl × Unit) (w : World) (h : zff_3 R x.1 x.2.1 w) : WPC P 20 [] (Code.at zff_B [.snd, .snd, .fst]) (zff_q2 R) (mkE 20 zff_l4 x) w :=
  pc_cut2 (l := zff_l5) (l' := zff_l6) 1 (zff_4_ok R) h
theorem zff_1_ok (R : Sl → World → Prop) (x : Sl × Sl × Unit) (w : World) (h : zff_1 R x.1 x.2.1 w) : WPC P 20 [] (Code.at zff_B [.snd, .snd]) (zff_q1 R) (mkE 20 zff_l2 x) w :=
  pc_seq (l := zff_l3) (a := (Code.at zff_B [.snd, .snd, .fst])) (b := (Code.at zff_B [.snd, .snd, .snd])) (pc_cut (l := zff_l4) (c := (Code.at zff_B [.snd, .snd, .fst])) 0 (zff_3_ok R) h) (zff_2_ok R)
theorem zff_0_ok (R : Sl → World → Prop) (x : Sl × Unit) (w : World) (h : zff_0 R x.1 w) : WPC P 20 [] (Code.at zff_B []) (zff_q1 R) (mkE 20 zff_l1 x) w :=
  pc_cut (l := zff_l2) 2 (zff_1_ok R) h
theorem zff_call (R : Sl → World → Prop) (l_0 : Sl) (w : World) (h : zff_0 R l_0 w) : mcall P n_zff [(Sl.v l_0)] .sl R w :=
  pc_top (l := zff_l1) (c := zff_B) Tryz.func18 (zff_0_ok R) h
noncomputable abbrev zfg_B : Code := (Tryz.f19.body).getD .skip
abbrev zfg_q1 (R : Bool → World → Prop) := (topQ P [.tmp 4] .b R)
abbrev zfg_l1 : Slots := [(0, zk1), (1, zk1)]
def zfg_0 (R : Bool → World → Prop) (a_0 : zT1) (b_1 : zT1) : World → Prop :=
 bx P zt9 zk1 a_0 fun a1 =>
 bx P zt9 zk1 b_1 fun a2 =>
 ld P zt1 a1 I fun (x3 : Int) =>
 ld P zt1 a2 I fun (x4 : Int) =>
 mif (x3 == x4)
 (ld P zt1 (ad a1 1) I fun (x5 : Int) =>
 ld P zt1 (ad a2 1) I fun (x6 : Int) =>
 mif (x5 == x6)
 (ld P zt1 (ad a1 2) I fun (x7 : Int) =>
 ld P zt1 (ad a2 2) I fun (x8 : Int) =>
 mif (x7 == x8)
 (ld P zt1 (ad a1 3) I fun (x9 : Int) =>
 ld P zt1 (ad a2 3) I fun (x10 : Int) =>
 mif (x9 == x10)
 (ld P zt8 (ad a1 4) .sl fun (x11 : Sl) =>
 ld P zt8 (ad a2 4) .sl fun (x12 : Sl) =>
 mcall P n_zf1o [(Sl.v x11), (Sl.v x12)] .b fun (x13 : Bool) =>
 R x13)
 (R false))
 (R false))
 (R false))
 (R false)
theorem zfg_0_ok (R : Bool → World → Prop) (x : zT1 × zT1 × Unit) (w : World) (h : zfg_0 R x.1 x.2.1 w) : WPC P 38 [] (Code.at zfg_B []) (zfg_q1 R) (mkE 38 zfg_l1 x) w :=
  pc_end h
theorem zfg_call (R : Bool → World → Prop) (a_0 : zT1) (b_1 : zT1) (w : World) (h : zfg_0 R a_0 b_1 w) : mcall P n_zfg [(KV zk1 a_0), (KV zk1 b_1)] .b R w :=
  pc_top (l := zfg_l1) (c := zfg_B) Tryz.func19 (zfg_0_ok R) h
noncomputable abbrev zfh_B : Code := (Tryz.f20.body).getD .skip
abbrev zfh_q1 (R : Bool → World → Prop) := (topQ P [.tmp 2] .b R)
abbrev zfh_l1 : Slots := [(0, zk0)]
abbrev zfh_l2 : Slots := [(1, .ad)]
abbrev zfh_l3 : Slots := []
def zfh_2 (R : Bool → World → Prop) : World → Prop :=
 R false
abbrev zfh_q2 (R : Bool → World → Prop) := (thenQ (fun env => getE env zfh_l3 fun (x : Unit) => zfh_2 R) (zfh_q1 R))
abbrev zfh_l4 : Slots := [(1, .ad)]
abbrev zfh_l5 : Slots := [(3, I)]
abbrev zfh_l6 : Slots := [(1, .ad)]
abbrev zfh_q3 (c1 : (Int × Unit) → (Addr × Unit) → World → Prop) (R : Bool → World → Prop) := (thenQ (fun env => getE env zfh_l5 fun (s : Int × Unit) => getE env zfh_l6 (c1 s)) (blockQ 0 ((zfh_q2 R) .normal) (zfh_q2 R)))
def zfh_5 (c1 : (Int × Unit) → (Addr × Unit) → World → Prop) (R : Bool → World → Prop) (k_3 : Int) (g_1 : Addr) : World → Prop :=
 mif (decide (k_3 ≤ 8))
 (ld P zt1 (ad g_1 1) I fun (x9 : Int) =>
 ld P zt1 g_1 I fun (x10 : Int) =>
 mif ((w64 (k_3 * x9)) == x10)
 (R true)
 (c1 (w64 (k_3 + 1), ()) (g_1, ())))
 (zfh_2 R)
def zfh_4 (R : Bool → World → Prop) (k_3 : Int) (g_1 : Addr) : World → Prop :=
 W.Loop (g_1, ()) (fun (c1 : (Int × Unit) → (Addr × Unit) → World → Prop) (s : Int × Unit) => zfh_5 c1 R s.1 g_1) (k_3, ())
def zfh_3 (R : Bool → World → Prop) (g_1 : Addr) : World → Prop :=
 zfh_4 R 1 g_1
def zfh_1 (R : Bool → World → Prop) (g_1 : Addr) : World → Prop :=
 zfh_3 R g_1
def zfh_0 (R : Bool → World → Prop) (g_0 : zT0) : World → Prop :=
 bx P zt5 zk0 g_0 fun a1 =>
 ld P zt1 a1 I fun (x2 : Int) =>
 mif (decide (x2 < 1))
 (R false)
 (ld P zt1 a1 I fun (x3 : Int) =>
 mif (decide (x3 > 1048576))
 (R false)
 (ld P zt1 (ad a1 1) I fun (x4 : Int) =>
 mif (decide (x4 < 1))
 (R false)
 (ld P zt1 (ad a1 1) I fun (x5 : Int) =>
 ld P zt1 a1 I fun (x6 : Int) =>
 mif (decide (x5 > x6))
 (R false)
 (ld P zt1 (ad a1 2) I fun (x7 : Int) =>
 mif (decide (x7 < 0))
 (R false)
 (ld P zt1 (ad a1 2) I fun (x8 : Int) =>
 mif (decide (x8 > 1048576))
 (R false)
 (zfh_1 R a1))))))
theorem zfh_2_ok (R : Bool → World → Prop) (x : Unit) (w : World) (h : zfh_2 R w) : WPC P 45 [] (Code.at zfh_B [.snd, .snd, .snd]) (zfh_q1 R) (mkE 45 zfh_l3 x) w :=
  pc_end h
theorem zfh_5_ok (c1 : (Int × Unit) → (Addr × Unit) → World → Prop) (R : Bool → World → Prop) (x : Int × Unit) (y : Addr × Unit) (w : World) (h : zfh_5 c1 R x.1 y.1 w) : WPC P 45 [] (Code.at zfh_B [.snd, .snd, .fst, .snd, .blk, .blk]) (zfh_q3 c1 R) (mkE2 45 zfh_l5 zfh_l6 x y) w :=
  pc_end h
theorem zfh_4_ok (R : Bool → World → Prop) (x : Int × Unit) (y : Addr × Unit) (w : World) (h : zfh_4 R x.1 y.1 w) : WPC P 45 [] (Code.at zfh_B [.snd, .snd, .fst, .snd]) (zfh_q2 R) (mkE2 45 zfh_l5 zfh_l6 x y) w :=
  pc_loopE (l := zfh_l5) (l' := zfh_l6) (id := 0) (b := (Code.at zfh_B [.snd, .snd, .fst, .snd, .blk, .blk])) (fun c1 s => zfh_5_ok c1 R s y) h
theorem zfh_3_ok (R : Bool → World → Prop) (x : Addr × Unit) (w : World) (h : zfh_3 R x.1 w) : WPC P 45 [] (Code.at zfh_B [.snd, .snd, .fst]) (zfh_q2 R) (mkE 45 zfh_l4 x) w :=
  pc_cut2 (l := zfh_l5) (l' := zfh_l6) 1 (zfh_4_ok R) h
theorem zfh_1_ok (R : Bool → World → Prop) (x : Addr × Unit) (w : World) (h : zfh_1 R x.1 w) : WPC P 45 [] (Code.at zfh_B [.snd, .snd]) (zfh_q1 R) (mkE 45 zfh_l2 x) w :=
  pc_seq (l := zfh_l3) (a := (Code.at zfh_B [.snd, .snd, .fst])) (b := (Code.at zfh_B [.snd, .snd, .snd])) (pc_cut (l := zfh_l4) (c := (Code.at zfh_B [.snd, .snd, .fst])) 0 (zfh_3_ok R) h) (zfh_2_ok R)
theorem zfh_0_ok (R : Bool → World → Prop) (x : zT0 × Unit) (w : World) (h : zfh_0 R x.1 w) : WPC P 45 [] (Code.at zfh_B []) (zfh_q1 R) (mkE 45 zfh_l1 x) w :=
  pc_cut (l := zfh_l2) 2 (zfh_1_ok R) h
theorem zfh_call (R : Bool → World → Prop) (g_0 : zT0) (w : World) (h : zfh_0 R g_0 w) : mcall P n_zfh [(KV zk0 g_0)] .b R w :=
  pc_top (l := zfh_l1) (c := zfh_B) Tryz.func20 (zfh_0_ok R) h
noncomputable abbrev zfi_B : Code := (Tryz.f21.body).getD .skip
abbrev zfi_q1 (R : Bool → World → Prop) := (topQ P [.tmp 2] .b R)
abbrev zfi_l1 : Slots := [(0, I)]
def zfi_0 (R : Bool → World → Prop) (n_0 : Int) : World → Prop :=
 mif (decide (n_0 ≥ 0))
 (R (decide (n_0 ≤ 1099511627776)))
 (R false)
theorem zfi_0_ok (R : Bool → World → Prop) (x : Int × Unit) (w : World) (h : zfi_0 R x.1 w) : WPC P 9 [] (Code.at zfi_B []) (zfi_q1 R) (mkE 9 zfi_l1 x) w :=
  pc_end h
theorem zfi_call (R : Bool → World → Prop) (n_0 : Int) (w : World) (h : zfi_0 R n_0 w) : mcall P n_zfi [(.int .i64 n_0)] .b R w :=
  pc_top (l := zfi_l1) (c := zfi_B) Tryz.func21 (zfi_0_ok R) h
noncomputable abbrev zfj_B : Code := (Tryz.f22.body).getD .skip
abbrev zfj_q1 (R : Bool → World → Prop) := (topQ P [.tmp 6] .b R)
abbrev zfj_l1 : Slots := [(0, zk0), (1, I), (2, I)]
def zfj_0 (R : Bool → World → Prop) (g_0 : zT0) (start_1 : Int) (mark_2 : Int) : World → Prop :=
 bx P zt5 zk0 g_0 fun a1 =>
 ld P zt5 a1 zk0 fun (x2 : zT0) =>
 mcall P n_zfh [(KV zk0 x2)] .b fun (x3 : Bool) =>
 mif x3
 (mif (decide (mark_2 ≥ 0))
 (ld P zt1 a1 I fun (x4 : Int) =>
 ld P zt1 (ad a1 2) I fun (x5 : Int) =>
 R (decide (start_1 ≤ (w64 (mark_2 - (w64 (x4 + x5)))))))
 (R false))
 (R false)
theorem zfj_0_ok (R : Bool → World → Prop) (x : zT0 × Int × Int × Unit) (w : World) (h : zfj_0 R x.1 x.2.1 x.2.2.1 w) : WPC P 24 [] (Code.at zfj_B []) (zfj_q1 R) (mkE 24 zfj_l1 x) w :=
  pc_end h
theorem zfj_call (R : Bool → World → Prop) (g_0 : zT0) (start_1 : Int) (mark_2 : Int) (w : World) (h : zfj_0 R g_0 start_1 mark_2 w) : mcall P n_zfj [(KV zk0 g_0), (.int .i64 start_1), (.int .i64 mark_2)] .b R w :=
  pc_top (l := zfj_l1) (c := zfj_B) Tryz.func22 (zfj_0_ok R) h
noncomputable abbrev zfk_B : Code := (Tryz.f23.body).getD .skip
abbrev zfk_q1 (R : Bool → World → Prop) := (topQ P [.tmp 2] .b R)
abbrev zfk_l1 : Slots := [(0, zk5)]
abbrev zfk_l2 : Slots := [(1, .ad), (3, I)]
abbrev zfk_l3 : Slots := [(1, .ad), (3, I)]
abbrev zfk_l4 : Slots := [(1, .ad), (5, I), (6, I)]
abbrev zfk_l5 : Slots := [(1, .ad), (5, I), (6, I)]
def zfk_4 (R : Bool → World → Prop) (a_1 : Addr) (x_5 : Int) (y_6 : Int) : World → Prop :=
 ld P zt1 a_1 I fun (x13 : Int) =>
 R (decide ((w64 (x_5 + y_6)) ≤ x13))
def zfk_3 (R : Bool → World → Prop) (a_1 : Addr) (x_5 : Int) (y_6 : Int) : World → Prop :=
 mif (decide (y_6 < 0))
 (zfk_4 R a_1 x_5 (w64 (0 - y_6)))
 (zfk_4 R a_1 x_5 y_6)
def zfk_2 (R : Bool → World → Prop) (a_1 : Addr) (n_3 : Int) : World → Prop :=
 ld P zt1 a_1 I fun (x6 : Int) =>
 mif (n_3 != x6)
 (R false)
 (ld P zt1 (ad a_1 8) I fun (x7 : Int) =>
 mif (decide (x7 < (-1099511627776)))
 (R false)
 (ld P zt1 (ad a_1 8) I fun (x8 : Int) =>
 mif (decide (x8 > 1099511627776))
 (R false)
 (ld P zt1 (ad a_1 9) I fun (x9 : Int) =>
 mif (decide (x9 < (-1099511627776)))
 (R false)
 (ld P zt1 (ad a_1 9) I fun (x10 : Int) =>
 mif (decide (x10 > 1099511627776))
 (R false)
 (mdraw <|
 ld P zt1 (ad a_1 8) I fun (x11 : Int) =>
 ld P zt1 (ad a_1 9) I fun (x12 : Int) =>
 mif (decide (x11 < 0))
 (zfk_3 R a_1 (w64 (0 - x11)) x12)
 (zfk_3 R a_1 x11 x12))))))
abbrev zfk_q2 (R : Bool → World → Prop) := (thenQ (fun env => getE env zfk_l3 fun (x : Addr × Int × Unit) => zfk_2 R x.1 x.2.1) (zfk_q1 R))
abbrev zfk_l6 : Slots := [(1, .ad), (3, I)]
abbrev zfk_l7 : Slots := [(3, I), (4, I)]
abbrev zfk_l8 : Slots := [(1, .ad)]
abbrev zfk_q3 (c1 : (Int × Int × Unit) → (Addr × Unit) → World → Prop) (R : Bool → World → Prop) := (thenQ (fun env => getE env zfk_l7 fun (s : Int × Int × Unit) => getE env zfk_l8 (c1 s)) (blockQ 0 ((zfk_q2 R) .normal) (zfk_q2 R)))
def zfk_7 (c1 : (Int × Int × Unit) → (Addr × Unit) → World → Prop) (R : Bool → World → Prop) (n_3 : Int) (k_4 : Int) (a_1 : Addr) : World → Prop :=
 mif (decide (k_4 < 4))
 (ixa P ztf (.pointer (some (ad a_1 4))) k_4 fun x14 =>
 ld P zt1 x14 I fun (x15 : Int) =>
 mif (decide (x15 < 0))
 (R false)
 (ixa P ztf (.pointer (some (ad a_1 4))) k_4 fun x16 =>
 ld P zt1 x16 I fun (x17 : Int) =>
 mif (decide (x17 > 1099511627776))
 (R false)
 (ixa P ztf (.pointer (some (ad a_1 4))) k_4 fun x18 =>
 ld P zt1 x18 I fun (x19 : Int) =>
 c1 (w64 (n_3 + x19), w64 (k_4 + 1), ()) (a_1, ()))))
 (zfk_2 R a_1 n_3)
def zfk_6 (R : Bool → World → Prop) (n_3 : Int) (k_4 : Int) (a_1 : Addr) : World → Prop :=
 W.Loop (a_1, ()) (fun (c1 : (Int × Int × Unit) → (Addr × Unit) → World → Prop) (s : Int × Int × Unit) => zfk_7 c1 R s.1 s.2.1 a_1) (n_3, k_4, ())
def zfk_5 (R : Bool → World → Prop) (a_1 : Addr) (n_3 : Int) : World → Prop :=
 zfk_6 R n_3 0 a_1
def zfk_1 (R : Bool → World → Prop) (a_1 : Addr) (n_3 : Int) : World → Prop :=
 zfk_5 R a_1 n_3
def zfk_0 (R : Bool → World → Prop) (a_0 : zT5) : World → Prop :=
 bx P ztg zk5 a_0 fun a1 =>
 ld P zt1 a1 I fun (x2 : Int) =>
 mif (decide (x2 < 1))
 (R false)
 (ld P zt1 a1 I fun (x3 : Int) =>
 mif (decide (x3 > 1099511627776))
 (R false)
 (ld P zt1 (ad a1 2) I fun (x4 : Int) =>
 ld P zt1 (ad a1 3) I fun (x5 : Int) =>
 mif (decide (x4 > x5))
 (R false)
 (zfk_1 R a1 0)))
theorem zfk_4_ok (R : Bool → World → Prop) (x : Addr × Int × Int × Unit) (w : World) (h : zfk_4 R x.1 x.2.1 x.2.2.1 w) : WPC P 86 [] (Code.at zfk_B [.snd, .snd, .snd, .snd, .snd, .snd, .snd, .snd]) (zfk_q1 R) (mkE 86 zfk_l5 x) w :=
  pc_end h
theorem zfk_3_ok (R : Bool → World → Prop) (x : Addr × Int × Int × Unit) (w : World) (h : zfk_3 R x.1 x.2.1 x.2.2.1 w) : WPC P 86 [] (Code.at zfk_B [.snd, .snd, .snd, .snd, .snd, .snd, .snd]) (zfk_q1 R) (mkE 86 zfk_l4 x) w :=
  pc_cut (l := zfk_l5) 1 (zfk_4_ok R) h
theorem zfk_2_ok (R : Bool → World → Prop) (x : Addr × Int × Unit) (w : World) (h : zfk_2 R x.1 x.2.1 w) : WPC P 86 [] (Code.at zfk_B [.snd, .snd, .snd, .snd]) (zfk_q1 R) (mkE 86 zfk_l3 x) w :=
  pc_cut (l := zfk_l4) 3 (zfk_3_ok R) h
theorem zfk_7_ok (c1 : (Int × Int × Unit) → (Addr × Unit) → World → Prop) (R : Bool → World → Prop) (x : Int × Int × Unit) (y : Addr × Unit) (w : World) (h : zfk_7 c1 R x.1 x.2.1 y.1 w) : WPC P 86 [] (Code.at zfk_B [.snd, .snd, .snd, .fst, .snd, .blk, .blk]) (zfk_q3 c1 R) (mkE2 86 zfk_l7 zfk_l8 x y) w :=
  pc_end h
theorem zfk_6_ok (R : Bool → World → Prop) (x : Int × Int × Unit) (y : Addr × Unit) (w : World) (h : zfk_6 R x.1 x.2.1 y.1 w) : WPC P 86 [] (Code.at zfk_B [.snd, .snd, .snd, .fst, .snd]) (zfk_q2 R) (mkE2 86 zfk_l7 zfk_l8 x y) w :=
  pc_loopE (l := zfk_l7) (l' := zfk_l8) (id := 0) (b := (Code.at zfk_B [.snd, .snd, .snd, .fst, .snd, .blk, .blk])) (fun c1 s => zfk_7_ok c1 R s y) h
theorem zfk_5_ok (R : Bool → World → Prop) (x : Addr × Int × Unit) (w : World) (h : zfk_5 R x.1 x.2.1 w) : WPC P 86 [] (Code.at zfk_B [.snd, .snd, .snd, .fst]) (zfk_q2 R) (mkE 86 zfk_l6 x) w :=
  pc_cut2 (l := zfk_l7) (l' := zfk_l8) 1 (zfk_6_ok R) h
theorem zfk_1_ok (R : Bool → World → Prop) (x : Addr × Int × Unit) (w : World) (h : zfk_1 R x.1 x.2.1 w) : WPC P 86 [] (Code.at zfk_B [.snd, .snd, .snd]) (zfk_q1 R) (mkE 86 zfk_l2 x) w :=
  pc_seq (l := zfk_l3) (a := (Code.at zfk_B [.snd, .snd, .snd, .fst])) (b := (Code.at zfk_B [.snd, .snd, .snd, .snd])) (pc_cut (l := zfk_l6) (c := (Code.at zfk_B [.snd, .snd, .snd, .fst])) 0 (zfk_5_ok R) h) (zfk_2_ok R)
theorem zfk_0_ok (R : Bool → World → Prop) (x : zT5 × Unit) (w : World) (h : zfk_0 R x.1 w) : WPC P 86 [] (Code.at zfk_B []) (zfk_q1 R) (mkE 86 zfk_l1 x) w :=
  pc_cut (l := zfk_l2) 3 (zfk_1_ok R) h
theorem zfk_call (R : Bool → World → Prop) (a_0 : zT5) (w : World) (h : zfk_0 R a_0 w) : mcall P n_zfk [(KV zk5 a_0)] .b R w :=
  pc_top (l := zfk_l1) (c := zfk_B) Tryz.func23 (zfk_0_ok R) h
noncomputable abbrev zfl_B : Code := (Tryz.f24.body).getD .skip
abbrev zfl_q1 (R : Bool → World → Prop) := (topQ P [.tmp 4] .b R)
abbrev zfl_l1 : Slots := [(0, zk6), (1, zk6)]
def zfl_0 (R : Bool → World → Prop) (a_0 : zT6) (b_1 : zT6) : World → Prop :=
 bx P zth zk6 a_0 fun a1 =>
 bx P zth zk6 b_1 fun a2 =>
 ld P zt1 (ad a1 1) I fun (x3 : Int) =>
 ld P zt1 (ad a2 1) I fun (x4 : Int) =>
 mif (decide (x3 < x4))
 (R true)
 (ld P zt1 (ad a1 1) I fun (x5 : Int) =>
 ld P zt1 (ad a2 1) I fun (x6 : Int) =>
 mif (x5 == x6)
 (ld P zt1 a1 I fun (x7 : Int) =>
 ld P zt1 a2 I fun (x8 : Int) =>
 R (decide (x7 < x8)))
 (R false))
theorem zfl_0_ok (R : Bool → World → Prop) (x : zT6 × zT6 × Unit) (w : World) (h : zfl_0 R x.1 x.2.1 w) : WPC P 24 [] (Code.at zfl_B []) (zfl_q1 R) (mkE 24 zfl_l1 x) w :=
  pc_end h
theorem zfl_call (R : Bool → World → Prop) (a_0 : zT6) (b_1 : zT6) (w : World) (h : zfl_0 R a_0 b_1 w) : mcall P n_zfl [(KV zk6 a_0), (KV zk6 b_1)] .b R w :=
  pc_top (l := zfl_l1) (c := zfl_B) Tryz.func24 (zfl_0_ok R) h
noncomputable abbrev zfm_B : Code := (Tryz.f25.body).getD .skip
abbrev zfm_q1 (R : (Option Addr × Int × Unit) → World → Prop) := (topQ P [.tmp 4, .tmp 5] (.tup [.p, I]) R)
abbrev zfm_l1 : Slots := [(0, .p), (1, .s)]
abbrev zfm_l2 : Slots := [(6, .p), (8, .ad)]
abbrev zfm_l3 : Slots := [(8, .ad)]
def zfm_2 (R : (Option Addr × Int × Unit) → World → Prop) (p_8 : Addr) : World → Prop :=
 R ((some p_8), 0, ())
abbrev zfm_q2 (R : (Option Addr × Int × Unit) → World → Prop) := (thenQ (fun env => getE env zfm_l3 fun (x : Addr × Unit) => zfm_2 R x.1) (zfm_q1 R))
abbrev zfm_l4 : Slots := [(6, .p), (8, .ad)]
abbrev zfm_l5 : Slots := [(9, I)]
abbrev zfm_l6 : Slots := [(6, .p), (8, .ad)]
abbrev zfm_q3 (c1 : (Int × Unit) → (Option Addr × Addr × Unit) → World → Prop) (R : (Option Addr × Int × Unit) → World → Prop) := (thenQ (fun env => getE env zfm_l5 fun (s : Int × Unit) => getE env zfm_l6 (c1 s)) (blockQ 0 ((zfm_q2 R) .normal) (zfm_q2 R)))
abbrev zfm_l7 : Slots := [(6, .p), (8, .ad), (9, I)]
abbrev zfm_q4 (c1 : (Int × Unit) → (Option Addr × Addr × Unit) → World → Prop) (R : (Option Addr × Int × Unit) → World → Prop) := (blockQ 1 ((zfm_q3 c1 R) .normal) (zfm_q3 c1 R))
abbrev zfm_l8 : Slots := [(6, .p), (8, .ad), (9, I)]
abbrev zfm_l9 : Slots := [(9, I), (45, I)]
abbrev zfm_l10 : Slots := [(6, .p), (8, .ad), (43, .sl), (44, I)]
abbrev zfm_q5 (c2 : (Int × Int × Unit) → (Option Addr × Addr × Sl × Int × Unit) → World → Prop) (c1 : (Int × Unit) → (Option Addr × Addr × Unit) → World → Prop) (R : (Option Addr × Int × Unit) → World → Prop) := (thenQ (fun env => getE env zfm_l9 fun (s : Int × Int × Unit) => getE env zfm_l10 (c2 s)) (blockQ 2 ((zfm_q4 c1 R) .normal) (zfm_q4 c1 R)))
def zfm_9 (c2 : (Int × Int × Unit) → (Option Addr × Addr × Sl × Int × Unit) → World → Prop) (c1 : (Int × Unit) → (Option Addr × Addr × Unit) → World → Prop) (R : (Option Addr × Int × Unit) → World → Prop) (at_9 : Int) (v45 : Int) (l_6 : Option Addr) (p_8 : Addr) (v43 : Sl) (v44 : Int) : World → Prop :=
 mif (decide (v45 < v44))
 (ixa P ztx (Sl.v v43) v45 fun x6 =>
 ld P zty x6 zk2 fun (x7 : zT2) =>
 alo P zty fun a8 =>
 sto P zty a8 zk2 x7 <|
 ld P zt4 (ad a8 2) .s fun (x9 : Bs) =>
 mcall P n_zf1t [(.string ⟨x9.toArray⟩)] (.tup [zk1, I]) fun (x10 : zT1 × Int × Unit) =>
 alo P ztj fun a11 =>
 sto P ztj a11 zk1 x10.1 <|
 mdraw <|
 mif (x10.2.1 != 0)
 (R (none, 2, ()))
 (ld P ztj a11 zk1 fun (x12 : zT1) =>
 ld P zt1 (ad a8 1) I fun (x13 : Int) =>
 mcall P n_zf1u [(KV zk1 x12)] I fun (x14 : Int) =>
 mst P (Instr.loadAt zt1 (.pointer (some (ad a8 1)))) (.int .i64 x13) <|
 mif (x14 != x13)
 (R (none, 2, ()))
 (ld P ztj a11 zk1 fun (x15 : zT1) =>
 ld P zt1 a8 I fun (x16 : Int) =>
 mcall P n_zf1v [(.pointer (some p_8)), (KV zk1 x15), (.int .i64 x16)] (.tup []) fun (x17 : Unit) =>
 ld P zt1 a8 I fun (x18 : Int) =>
 ld P zt1 (ad a8 1) I fun (x19 : Int) =>
 c2 (w64 (x18 + x19), w64 (v45 + 1), ()) (l_6, p_8, v43, v44, ()))))
 (c1 (at_9, ()) (l_6, p_8, ()))
def zfm_8 (c1 : (Int × Unit) → (Option Addr × Addr × Unit) → World → Prop) (R : (Option Addr × Int × Unit) → World → Prop) (at_9 : Int) (v45 : Int) (l_6 : Option Addr) (p_8 : Addr) (v43 : Sl) (v44 : Int) : World → Prop :=
 W.Loop (l_6, p_8, v43, v44, ()) (fun (c2 : (Int × Int × Unit) → (Option Addr × Addr × Sl × Int × Unit) → World → Prop) (s : Int × Int × Unit) => zfm_9 c2 c1 R s.1 s.2.1 l_6 p_8 v43 v44) (at_9, v45, ())
def zfm_7 (c1 : (Int × Unit) → (Option Addr × Addr × Unit) → World → Prop) (R : (Option Addr × Int × Unit) → World → Prop) (l_6 : Option Addr) (p_8 : Addr) (at_9 : Int) : World → Prop :=
 mcall P n_zf1s [(.pointer l_6), (.int .i64 at_9), (.int .i64 32)] (.tup [.sl, I]) fun (x5 : Sl × Int × Unit) =>
 mif (x5.2.1 != 0)
 (R (none, x5.2.1, ()))
 (zfm_8 c1 R at_9 0 l_6 p_8 x5.1 (x5.1.len : Int))
def zfm_6 (c1 : (Int × Unit) → (Option Addr × Addr × Unit) → World → Prop) (R : (Option Addr × Int × Unit) → World → Prop) (l_6 : Option Addr) (p_8 : Addr) (at_9 : Int) : World → Prop :=
 zfm_7 c1 R l_6 p_8 at_9
def zfm_5 (c1 : (Int × Unit) → (Option Addr × Addr × Unit) → World → Prop) (R : (Option Addr × Int × Unit) → World → Prop) (at_9 : Int) (l_6 : Option Addr) (p_8 : Addr) : World → Prop :=
 mcall P n_zf1r [(.pointer l_6)] I fun (x4 : Int) =>
 mif (decide (at_9 < x4))
 (zfm_6 c1 R l_6 p_8 at_9)
 (zfm_2 R p_8)
def zfm_4 (R : (Option Addr × Int × Unit) → World → Prop) (at_9 : Int) (l_6 : Option Addr) (p_8 : Addr) : World → Prop :=
 W.Loop (l_6, p_8, ()) (fun (c1 : (Int × Unit) → (Option Addr × Addr × Unit) → World → Prop) (s : Int × Unit) => zfm_5 c1 R s.1 l_6 p_8) (at_9, ())
def zfm_3 (R : (Option Addr × Int × Unit) → World → Prop) (l_6 : Option Addr) (p_8 : Addr) : World → Prop :=
 mcall P n_zf1q [(.pointer l_6)] I fun (x3 : Int) =>
 zfm_4 R x3 l_6 p_8
def zfm_1 (R : (Option Addr × Int × Unit) → World → Prop) (l_6 : Option Addr) (p_8 : Addr) : World → Prop :=
 zfm_3 R l_6 p_8
def zfm_0 (R : (Option Addr × Int × Unit) → World → Prop) (d_0 : Option Addr) (name_1 : Bs) : World → Prop :=
 mcall P n_zf1p [(.pointer d_0), (.string ⟨name_1.toArray⟩)] (.tup [.p, I]) fun (x1 : Option Addr × Int × Unit) =>
 mif (x1.2.1 != 0)
 (R (none, x1.2.1, ()))
 (bx P ztw zk8 (x1.1, ⟨none, 0, 0⟩, ⟨none, 0, 0⟩, ⟨none, 0, 0⟩, ()) fun a2 =>
 zfm_1 R x1.1 a2)
theorem zfm_2_ok (R : (Option Addr × Int × Unit) → World → Prop) (x : Addr × Unit) (w : World) (h : zfm_2 R x.1 w) : WPC P 76 [] (Code.at zfm_B [.snd, .snd, .snd, .snd, .snd]) (zfm_q1 R) (mkE 76 zfm_l3 x) w :=
  pc_end h
theorem zfm_9_ok (c2 : (Int × Int × Unit) → (Option Addr × Addr × Sl × Int × Unit) → World → Prop) (c1 : (Int × Unit) → (Option Addr × Addr × Unit) → World → Prop) (R : (Option Addr × Int × Unit) → World → Prop) (x : Int × Int × Unit) (y : Option Addr × Addr × Sl × Int × Unit) (w : World) (h : zfm_9 c2 c1 R x.1 x.2.1 y.1 y.2.1 y.2.2.1 y.2.2.2.1 w) : WPC P 76 [] (Code.at zfm_B [.snd, .snd, .snd, .snd, .fst, .snd, .blk, .blk, .snd, .blk, .snd, .snd, .snd, .blk, .blk]) (zfm_q5 c2 c1 R) (mkE2 76 zfm_l9 zfm_l10 x y) w :=
  pc_end h
theorem zfm_8_ok (c1 : (Int × Unit) → (Option Addr × Addr × Unit) → World → Prop) (R : (Option Addr × Int × Unit) → World → Prop) (x : Int × Int × Unit) (y : Option Addr × Addr × Sl × Int × Unit) (w : World) (h : zfm_8 c1 R x.1 x.2.1 y.1 y.2.1 y.2.2.1 y.2.2.2.1 w) : WPC P 76 [] (Code.at zfm_B [.snd, .snd, .snd, .snd, .fst, .snd, .blk, .blk, .snd, .blk, .snd, .snd, .snd]) (zfm_q4 c1 R) (mkE2 76 zfm_l9 zfm_l10 x y) w :=
  pc_loopE (l := zfm_l9) (l' := zfm_l10) (id := 2) (b := (Code.at zfm_B [.snd, .snd, .snd, .snd, .fst, .snd, .blk, .blk, .snd, .blk, .snd, .snd, .snd, .blk, .blk])) (fun c2 s => zfm_9_ok c2 c1 R s y) h
theorem zfm_7_ok (c1 : (Int × Unit) → (Option Addr × Addr × Unit) → World → Prop) (R : (Option Addr × Int × Unit) → World → Prop) (x : Option Addr × Addr × Int × Unit) (w : World) (h : zfm_7 c1 R x.1 x.2.1 x.2.2.1 w) : WPC P 76 [] (Code.at zfm_B [.snd, .snd, .snd, .snd, .fst, .snd, .blk, .blk, .snd, .blk]) (zfm_q4 c1 R) (mkE 76 zfm_l8 x) w :=
  pc_cut2 (l := zfm_l9) (l' := zfm_l10) 3 (zfm_8_ok c1 R) h
theorem zfm_6_ok (c1 : (Int × Unit) → (Option Addr × Addr × Unit) → World → Prop) (R : (Option Addr × Int × Unit) → World → Prop) (x : Option Addr × Addr × Int × Unit) (w : World) (h : zfm_6 c1 R x.1 x.2.1 x.2.2.1 w) : WPC P 76 [] (Code.at zfm_B [.snd, .snd, .snd, .snd, .fst, .snd, .blk, .blk, .snd]) (zfm_q3 c1 R) (mkE 76 zfm_l7 x) w :=
  pc_block (c := (Code.at zfm_B [.snd, .snd, .snd, .snd, .fst, .snd, .blk, .blk, .snd, .blk])) (id := 1) (pc_cut (l := zfm_l8) (c := (Code.at zfm_B [.snd, .snd, .snd, .snd, .fst, .snd, .blk, .blk, .snd, .blk])) 0 (zfm_7_ok c1 R) h)
theorem zfm_5_ok (c1 : (Int × Unit) → (Option Addr × Addr × Unit) → World → Prop) (R : (Option Addr × Int × Unit) → World → Prop) (x : Int × Unit) (y : Option Addr × Addr × Unit) (w : World) (h : zfm_5 c1 R x.1 y.1 y.2.1 w) : WPC P 76 [] (Code.at zfm_B [.snd, .snd, .snd, .snd, .fst, .snd, .blk, .blk]) (zfm_q3 c1 R) (mkE2 76 zfm_l5 zfm_l6 x y) w :=
  pc_cut (l := zfm_l7) 1 (zfm_6_ok c1 R) h
theorem zfm_4_ok (R : (Option Addr × Int × Unit) → World → Prop) (x : Int × Unit) (y : Option Addr × Addr × Unit) (w : World) (h : zfm_4 R x.1 y.1 y.2.1 w) : WPC P 76 [] (Code.at zfm_B [.snd, .snd, .snd, .snd, .fst, .snd]) (zfm_q2 R) (mkE2 76 zfm_l5 zfm_l6 x y) w :=
  pc_loopE (l := zfm_l5) (l' := zfm_l6) (id := 0) (b := (Code.at zfm_B [.snd, .snd, .snd, .snd, .fst, .snd, .blk, .blk])) (fun c1 s => zfm_5_ok c1 R s y) h
theorem zfm_3_ok (R : (Option Addr × Int × Unit) → World → Prop) (x : Option Addr × Addr × Unit) (w : World) (h : zfm_3 R x.1 x.2.1 w) : WPC P 76 [] (Code.at zfm_B [.snd, .snd, .snd, .snd, .fst]) (zfm_q2 R) (mkE 76 zfm_l4 x) w :=
  pc_cut2 (l := zfm_l5) (l' := zfm_l6) 1 (zfm_4_ok R) h
theorem zfm_1_ok (R : (Option Addr × Int × Unit) → World → Prop) (x : Option Addr × Addr × Unit) (w : World) (h : zfm_1 R x.1 x.2.1 w) : WPC P 76 [] (Code.at zfm_B [.snd, .snd, .snd, .snd]) (zfm_q1 R) (mkE 76 zfm_l2 x) w :=
  pc_seq (l := zfm_l3) (a := (Code.at zfm_B [.snd, .snd, .snd, .snd, .fst])) (b := (Code.at zfm_B [.snd, .snd, .snd, .snd, .snd])) (pc_cut (l := zfm_l4) (c := (Code.at zfm_B [.snd, .snd, .snd, .snd, .fst])) 0 (zfm_3_ok R) h) (zfm_2_ok R)
theorem zfm_0_ok (R : (Option Addr × Int × Unit) → World → Prop) (x : Option Addr × Bs × Unit) (w : World) (h : zfm_0 R x.1 x.2.1 w) : WPC P 76 [] (Code.at zfm_B []) (zfm_q1 R) (mkE 76 zfm_l1 x) w :=
  pc_cut (l := zfm_l2) 4 (zfm_1_ok R) h
theorem zfm_call (R : (Option Addr × Int × Unit) → World → Prop) (d_0 : Option Addr) (name_1 : Bs) (w : World) (h : zfm_0 R d_0 name_1 w) : mcall P n_zfm [(.pointer d_0), (.string ⟨name_1.toArray⟩)] (.tup [.p, I]) R w :=
  pc_top (l := zfm_l1) (c := zfm_B) Tryz.func25 (zfm_0_ok R) h
noncomputable abbrev zfn_B : Code := (Tryz.f26.body).getD .skip
abbrev zfn_q1 (R : (Int × Bool × Int × Unit) → World → Prop) := (topQ P [.tmp 4, .tmp 5, .tmp 6] (.tup [I, .b, I]) R)
abbrev zfn_l1 : Slots := [(0, .p), (1, zk1)]
def zfn_0 (R : (Int × Bool × Int × Unit) → World → Prop) (p_0 : Option Addr) (b_1 : zT1) : World → Prop :=
 bx P ztj zk1 b_1 fun a1 =>
 mcall P n_zf1w [(.pointer p_0)] .b fun (x2 : Bool) =>
 mif x2
 (R (0, false, 1, ()))
 (mnil p_0 fun a3 =>
 ld P zts a3 .p fun (x4 : Option Addr) =>
 mcall P n_zf1x [(.pointer x4)] I fun (x5 : Int) =>
 mif (x5 != 0)
 (R (0, false, x5, ()))
 (mdraw <|
 mnil p_0 fun a6 =>
 ld P ztt (ad a6 1) .sl fun (x7 : Sl) =>
 ld P ztj a1 zk1 fun (x8 : zT1) =>
 mcall P n_zf1y [(Sl.v x7), (KV zk1 x8)] (.tup [I, .b, I]) fun (x9 : Int × Bool × Int × Unit) =>
 mif (x9.2.2.1 != 0)
 (R (x9.1, x9.2.1, x9.2.2.1, ()))
 (mif x9.2.1
 (R (x9.1, x9.2.1, x9.2.2.1, ()))
 (ld P ztj a1 zk1 fun (x10 : zT1) =>
 mcall P n_zf1z [(.pointer p_0), (KV zk1 x10)] (.tup [I, I]) fun (x11 : Int × Int × Unit) =>
 R (x11.1, false, x11.2.1, ())))))
theorem zfn_0_ok (R : (Int × Bool × Int × Unit) → World → Prop) (x : Option Addr × zT1 × Unit) (w : World) (h : zfn_0 R x.1 x.2.1 w) : WPC P 47 [] (Code.at zfn_B []) (zfn_q1 R) (mkE 47 zfn_l1 x) w :=
  pc_end h
theorem zfn_call (R : (Int × Bool × Int × Unit) → World → Prop) (p_0 : Option Addr) (b_1 : zT1) (w : World) (h : zfn_0 R p_0 b_1 w) : mcall P n_zfn [(.pointer p_0), (KV zk1 b_1)] (.tup [I, .b, I]) R w :=
  pc_top (l := zfn_l1) (c := zfn_B) Tryz.func26 (zfn_0_ok R) h
end Go.Proofs.YtpjhflboedicpaaGreatDoor
