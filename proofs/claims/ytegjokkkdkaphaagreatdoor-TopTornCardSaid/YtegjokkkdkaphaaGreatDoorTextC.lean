/- Short texts of functions of the program, each with the proof that a call comes to it. No condition. -/
import Derived.Test.YtegjokkkdkaphaaGreatDoorNames
set_option linter.unusedVariables false
set_option linter.unusedSimpArgs false
namespace Go.Proofs.YtegjokkkdkaphaaGreatDoor
open Go Go.W
set_option maxRecDepth 100000
/- headgate lz.parts -/
noncomputable abbrev lz_parts_B : Code := (Tryz.f21.body).getD .skip
abbrev lz_parts_l1 : Slots := [(0, .s)]
abbrev lz_parts_l2 : Slots := [(0, .s), (3, .ad), (4, .md), (5, I)]
abbrev lz_parts_l3 : Slots := [(0, .s), (3, .ad), (5, I)]
def lz_parts_2 (R : Bs → World → Prop) (s_0 : Bs) (b_3 : Addr) (from_5 : Int) : World → Prop :=
 sls P t_string s_0 (some from_5) none fun (x3 : Bs) =>
 mcall P n_lz_literal [(.pointer (some b_3)), (.string ⟨x3.toArray⟩)] (.tup []) fun (x4 : Unit) =>
 mcall P n_strings_Builder_String [(.pointer (some b_3))] .s fun (x5 : Bs) =>
 R x5
abbrev lz_parts_l4 : Slots := [(0, .s), (3, .ad), (4, .md), (5, I)]
abbrev lz_parts_l5 : Slots := [(5, I), (6, I)]
abbrev lz_parts_l6 : Slots := [(0, .s), (3, .ad), (4, .md)]
abbrev lz_parts_l7 : Slots := [(0, .s), (3, .ad), (4, .md), (5, I), (6, I)]
abbrev lz_parts_l8 : Slots := [(0, .s), (3, .ad), (4, .md), (5, I), (6, I)]
abbrev lz_parts_l9 : Slots := [(0, .s), (3, .ad), (4, .md), (6, I), (10, I)]
abbrev lz_parts_l10 : Slots := [(0, .s), (3, .ad), (4, .md), (6, I), (10, I)]
def lz_parts_9 (c1 : (Int × Int × Unit) → (Bs × Addr × Nat × Unit) → World → Prop) (R : Bs → World → Prop) (s_0 : Bs) (b_3 : Addr) (last_4 : Nat) (i_6 : Int) (n_10 : Int) : World → Prop :=
 c1 (w64 (i_6 + n_10), w64 (i_6 + n_10), ()) (s_0, b_3, last_4, ())
abbrev lz_parts_l11 : Slots := [(0, .s), (3, .ad), (4, .md), (6, I), (10, I)]
abbrev lz_parts_l12 : Slots := [(11, I)]
abbrev lz_parts_l13 : Slots := [(0, .s), (3, .ad), (4, .md), (6, I), (10, I)]
def lz_parts_12 (c2 : (Int × Unit) → (Bs × Addr × Nat × Int × Int × Unit) → World → Prop) (c1 : (Int × Int × Unit) → (Bs × Addr × Nat × Unit) → World → Prop) (R : Bs → World → Prop) (k_11 : Int) (s_0 : Bs) (b_3 : Addr) (last_4 : Nat) (i_6 : Int) (n_10 : Int) : World → Prop :=
 mif (decide (k_11 < (w64 (i_6 + n_10))))
 (mif (decide ((w64 (k_11 + 4)) ≤ (s_0.length : Int)))
 (mcall P n_lz_at [(.string ⟨s_0.toArray⟩), (.int .i64 k_11)] k_arr4_uint8 fun (x18 : T_arr4_uint8) =>
 mup P t_lz_seen (some last_4) k_arr4_uint8 x18 I k_11 <|
 c2 (w64 (k_11 + 1), ()) (s_0, b_3, last_4, i_6, n_10, ()))
 (lz_parts_9 c1 R s_0 b_3 last_4 i_6 n_10))
 (lz_parts_9 c1 R s_0 b_3 last_4 i_6 n_10)
def lz_parts_11 (c1 : (Int × Int × Unit) → (Bs × Addr × Nat × Unit) → World → Prop) (R : Bs → World → Prop) (k_11 : Int) (s_0 : Bs) (b_3 : Addr) (last_4 : Nat) (i_6 : Int) (n_10 : Int) : World → Prop :=
 W.Loop (s_0, b_3, last_4, i_6, n_10, ()) (fun (c2 : (Int × Unit) → (Bs × Addr × Nat × Int × Int × Unit) → World → Prop) (s : Int × Unit) => lz_parts_12 c2 c1 R s.1 s_0 b_3 last_4 i_6 n_10) (k_11, ())
def lz_parts_10 (c1 : (Int × Int × Unit) → (Bs × Addr × Nat × Unit) → World → Prop) (R : Bs → World → Prop) (s_0 : Bs) (b_3 : Addr) (last_4 : Nat) (i_6 : Int) (n_10 : Int) : World → Prop :=
 lz_parts_11 c1 R (w64 (i_6 + 1)) s_0 b_3 last_4 i_6 n_10
def lz_parts_8 (c1 : (Int × Int × Unit) → (Bs × Addr × Nat × Unit) → World → Prop) (R : Bs → World → Prop) (s_0 : Bs) (b_3 : Addr) (last_4 : Nat) (i_6 : Int) (n_10 : Int) : World → Prop :=
 lz_parts_10 c1 R s_0 b_3 last_4 i_6 n_10
def lz_parts_7 (c1 : (Int × Int × Unit) → (Bs × Addr × Nat × Unit) → World → Prop) (R : Bs → World → Prop) (s_0 : Bs) (b_3 : Addr) (last_4 : Nat) (from_5 : Int) (i_6 : Int) : World → Prop :=
 mcall P n_lz_at [(.string ⟨s_0.toArray⟩), (.int .i64 i_6)] k_arr4_uint8 fun (x6 : T_arr4_uint8) =>
 alo P t_arr4_uint8 fun a7 =>
 sto P t_arr4_uint8 a7 k_arr4_uint8 x6 <|
 ld P t_arr4_uint8 a7 k_arr4_uint8 fun (x8 : T_arr4_uint8) =>
 lk2 P t_lz_seen (some last_4) k_arr4_uint8 x8 I fun (x9 : Int) b10 =>
 ld P t_arr4_uint8 a7 k_arr4_uint8 fun (x11 : T_arr4_uint8) =>
 mup P t_lz_seen (some last_4) k_arr4_uint8 x11 I i_6 <|
 mif (!b10)
 (c1 (from_5, w64 (i_6 + 1), ()) (s_0, b_3, last_4, ()))
 (mif (decide ((w64 (i_6 - x9)) > 4096))
 (c1 (from_5, w64 (i_6 + 1), ()) (s_0, b_3, last_4, ()))
 (mcall P n_lz_alike [(.string ⟨s_0.toArray⟩), (.int .i64 x9), (.int .i64 i_6)] I fun (x12 : Int) =>
 sls P t_string s_0 (some from_5) (some i_6) fun (x13 : Bs) =>
 mcall P n_lz_literal [(.pointer (some b_3)), (.string ⟨x13.toArray⟩)] (.tup []) fun (x14 : Unit) =>
 bsl P t_sl_int I [w64 ((w64 (2 * (w64 (x12 - 4)))) + 1), w64 (i_6 - x9)] fun x15 =>
 mcall P n_varint_PutAll [(Sl.v x15)] .s fun (x16 : Bs) =>
 mcall P n_strings_Builder_WriteString [(.pointer (some b_3)), (.string ⟨x16.toArray⟩)] (.tup [I, .v]) fun (x17 : Int × Value × Unit) =>
 lz_parts_8 c1 R s_0 b_3 last_4 i_6 x12))
def lz_parts_6 (c1 : (Int × Int × Unit) → (Bs × Addr × Nat × Unit) → World → Prop) (R : Bs → World → Prop) (s_0 : Bs) (b_3 : Addr) (last_4 : Nat) (from_5 : Int) (i_6 : Int) : World → Prop :=
 lz_parts_7 c1 R s_0 b_3 last_4 from_5 i_6
def lz_parts_5 (c1 : (Int × Int × Unit) → (Bs × Addr × Nat × Unit) → World → Prop) (R : Bs → World → Prop) (from_5 : Int) (i_6 : Int) (s_0 : Bs) (b_3 : Addr) (last_4 : Nat) : World → Prop :=
 mif (decide ((w64 (i_6 + 4)) ≤ (s_0.length : Int)))
 (lz_parts_6 c1 R s_0 b_3 last_4 from_5 i_6)
 (lz_parts_2 R s_0 b_3 from_5)
def lz_parts_4 (R : Bs → World → Prop) (from_5 : Int) (i_6 : Int) (s_0 : Bs) (b_3 : Addr) (last_4 : Nat) : World → Prop :=
 W.Loop (s_0, b_3, last_4, ()) (fun (c1 : (Int × Int × Unit) → (Bs × Addr × Nat × Unit) → World → Prop) (s : Int × Int × Unit) => lz_parts_5 c1 R s.1 s.2.1 s_0 b_3 last_4) (from_5, i_6, ())
def lz_parts_3 (R : Bs → World → Prop) (s_0 : Bs) (b_3 : Addr) (last_4 : Nat) (from_5 : Int) : World → Prop :=
 lz_parts_4 R from_5 0 s_0 b_3 last_4
def lz_parts_1 (R : Bs → World → Prop) (s_0 : Bs) (b_3 : Addr) (last_4 : Nat) (from_5 : Int) : World → Prop :=
 lz_parts_3 R s_0 b_3 last_4 from_5
def lz_parts_0 (R : Bs → World → Prop) (s_0 : Bs) : World → Prop :=
 alo P t_strings_Builder fun a1 =>
 mkm P t_lz_seen fun (x2 : Nat) =>
 lz_parts_1 R s_0 a1 x2 0
theorem lz_parts_2_ok (R : Bs → World → Prop) (s_0 : Bs) (b_3 : Addr) (from_5 : Int) (w : World) (h : lz_parts_2 R s_0 b_3 from_5 w) : WPC P 89 [] (Code.at lz_parts_B [.snd, .snd, .snd, .snd, .snd]) (topQ P [.tmp 2] .s R) (mkE 89 lz_parts_l3 (s_0, b_3, from_5, ())) w :=
  pc_end (T := lz_parts_2 R s_0 b_3 from_5 w) hmix (by kernel_rfl) h
theorem lz_parts_9_ok (c1 : (Int × Int × Unit) → (Bs × Addr × Nat × Unit) → World → Prop) (R : Bs → World → Prop) (s_0 : Bs) (b_3 : Addr) (last_4 : Nat) (i_6 : Int) (n_10 : Int) (w : World) (h : lz_parts_9 c1 R s_0 b_3 last_4 i_6 n_10 w) : WPC P 89 [] (Code.at lz_parts_B [.snd, .snd, .snd, .snd, .fst, .snd, .blk, .blk, .snd, .blk, .snd, .snd, .snd, .snd, .snd, .snd, .snd, .snd]) (blockQ 1 ((thenQ (fun env => getE env lz_parts_l5 fun (s : Int × Int × Unit) => getE env lz_parts_l6 (c1 s)) (blockQ 0 ((thenQ (fun env => getE env lz_parts_l3 fun (x : Bs × Addr × Int × Unit) => lz_parts_2 R x.1 x.2.1 x.2.2.1) (topQ P [.tmp 2] .s R)) .normal) (thenQ (fun env => getE env lz_parts_l3 fun (x : Bs × Addr × Int × Unit) => lz_parts_2 R x.1 x.2.1 x.2.2.1) (topQ P [.tmp 2] .s R)))) .normal) (thenQ (fun env => getE env lz_parts_l5 fun (s : Int × Int × Unit) => getE env lz_parts_l6 (c1 s)) (blockQ 0 ((thenQ (fun env => getE env lz_parts_l3 fun (x : Bs × Addr × Int × Unit) => lz_parts_2 R x.1 x.2.1 x.2.2.1) (topQ P [.tmp 2] .s R)) .normal) (thenQ (fun env => getE env lz_parts_l3 fun (x : Bs × Addr × Int × Unit) => lz_parts_2 R x.1 x.2.1 x.2.2.1) (topQ P [.tmp 2] .s R))))) (mkE 89 lz_parts_l10 (s_0, b_3, last_4, i_6, n_10, ())) w :=
  pc_end (T := lz_parts_9 c1 R s_0 b_3 last_4 i_6 n_10 w) hmix (by kernel_rfl) h
theorem lz_parts_12_ok (c2 : (Int × Unit) → (Bs × Addr × Nat × Int × Int × Unit) → World → Prop) (c1 : (Int × Int × Unit) → (Bs × Addr × Nat × Unit) → World → Prop) (R : Bs → World → Prop) (k_11 : Int) (s_0 : Bs) (b_3 : Addr) (last_4 : Nat) (i_6 : Int) (n_10 : Int) (w : World) (h : lz_parts_12 c2 c1 R k_11 s_0 b_3 last_4 i_6 n_10 w) : WPC P 89 [] (Code.at lz_parts_B [.snd, .snd, .snd, .snd, .fst, .snd, .blk, .blk, .snd, .blk, .snd, .snd, .snd, .snd, .snd, .snd, .snd, .fst, .snd, .blk, .blk]) (thenQ (fun env => getE env lz_parts_l12 fun (s : Int × Unit) => getE env lz_parts_l13 (c2 s)) (blockQ 2 ((thenQ (fun env => getE env lz_parts_l10 fun (x : Bs × Addr × Nat × Int × Int × Unit) => lz_parts_9 c1 R x.1 x.2.1 x.2.2.1 x.2.2.2.1 x.2.2.2.2.1) (blockQ 1 ((thenQ (fun env => getE env lz_parts_l5 fun (s : Int × Int × Unit) => getE env lz_parts_l6 (c1 s)) (blockQ 0 ((thenQ (fun env => getE env lz_parts_l3 fun (x : Bs × Addr × Int × Unit) => lz_parts_2 R x.1 x.2.1 x.2.2.1) (topQ P [.tmp 2] .s R)) .normal) (thenQ (fun env => getE env lz_parts_l3 fun (x : Bs × Addr × Int × Unit) => lz_parts_2 R x.1 x.2.1 x.2.2.1) (topQ P [.tmp 2] .s R)))) .normal) (thenQ (fun env => getE env lz_parts_l5 fun (s : Int × Int × Unit) => getE env lz_parts_l6 (c1 s)) (blockQ 0 ((thenQ (fun env => getE env lz_parts_l3 fun (x : Bs × Addr × Int × Unit) => lz_parts_2 R x.1 x.2.1 x.2.2.1) (topQ P [.tmp 2] .s R)) .normal) (thenQ (fun env => getE env lz_parts_l3 fun (x : Bs × Addr × Int × Unit) => lz_parts_2 R x.1 x.2.1 x.2.2.1) (topQ P [.tmp 2] .s R)))))) .normal) (thenQ (fun env => getE env lz_parts_l10 fun (x : Bs × Addr × Nat × Int × Int × Unit) => lz_parts_9 c1 R x.1 x.2.1 x.2.2.1 x.2.2.2.1 x.2.2.2.2.1) (blockQ 1 ((thenQ (fun env => getE env lz_parts_l5 fun (s : Int × Int × Unit) => getE env lz_parts_l6 (c1 s)) (blockQ 0 ((thenQ (fun env => getE env lz_parts_l3 fun (x : Bs × Addr × Int × Unit) => lz_parts_2 R x.1 x.2.1 x.2.2.1) (topQ P [.tmp 2] .s R)) .normal) (thenQ (fun env => getE env lz_parts_l3 fun (x : Bs × Addr × Int × Unit) => lz_parts_2 R x.1 x.2.1 x.2.2.1) (topQ P [.tmp 2] .s R)))) .normal) (thenQ (fun env => getE env lz_parts_l5 fun (s : Int × Int × Unit) => getE env lz_parts_l6 (c1 s)) (blockQ 0 ((thenQ (fun env => getE env lz_parts_l3 fun (x : Bs × Addr × Int × Unit) => lz_parts_2 R x.1 x.2.1 x.2.2.1) (topQ P [.tmp 2] .s R)) .normal) (thenQ (fun env => getE env lz_parts_l3 fun (x : Bs × Addr × Int × Unit) => lz_parts_2 R x.1 x.2.1 x.2.2.1) (topQ P [.tmp 2] .s R)))))))) (mkE2 89 lz_parts_l12 lz_parts_l13 (k_11, ()) (s_0, b_3, last_4, i_6, n_10, ())) w :=
  pc_end (T := lz_parts_12 c2 c1 R k_11 s_0 b_3 last_4 i_6 n_10 w) hmix (by kernel_rfl) h
theorem lz_parts_11_ok (c1 : (Int × Int × Unit) → (Bs × Addr × Nat × Unit) → World → Prop) (R : Bs → World → Prop) (k_11 : Int) (s_0 : Bs) (b_3 : Addr) (last_4 : Nat) (i_6 : Int) (n_10 : Int) (w : World) (h : lz_parts_11 c1 R k_11 s_0 b_3 last_4 i_6 n_10 w) : WPC P 89 [] (Code.at lz_parts_B [.snd, .snd, .snd, .snd, .fst, .snd, .blk, .blk, .snd, .blk, .snd, .snd, .snd, .snd, .snd, .snd, .snd, .fst, .snd]) (thenQ (fun env => getE env lz_parts_l10 fun (x : Bs × Addr × Nat × Int × Int × Unit) => lz_parts_9 c1 R x.1 x.2.1 x.2.2.1 x.2.2.2.1 x.2.2.2.2.1) (blockQ 1 ((thenQ (fun env => getE env lz_parts_l5 fun (s : Int × Int × Unit) => getE env lz_parts_l6 (c1 s)) (blockQ 0 ((thenQ (fun env => getE env lz_parts_l3 fun (x : Bs × Addr × Int × Unit) => lz_parts_2 R x.1 x.2.1 x.2.2.1) (topQ P [.tmp 2] .s R)) .normal) (thenQ (fun env => getE env lz_parts_l3 fun (x : Bs × Addr × Int × Unit) => lz_parts_2 R x.1 x.2.1 x.2.2.1) (topQ P [.tmp 2] .s R)))) .normal) (thenQ (fun env => getE env lz_parts_l5 fun (s : Int × Int × Unit) => getE env lz_parts_l6 (c1 s)) (blockQ 0 ((thenQ (fun env => getE env lz_parts_l3 fun (x : Bs × Addr × Int × Unit) => lz_parts_2 R x.1 x.2.1 x.2.2.1) (topQ P [.tmp 2] .s R)) .normal) (thenQ (fun env => getE env lz_parts_l3 fun (x : Bs × Addr × Int × Unit) => lz_parts_2 R x.1 x.2.1 x.2.2.1) (topQ P [.tmp 2] .s R)))))) (mkE2 89 lz_parts_l12 lz_parts_l13 (k_11, ()) (s_0, b_3, last_4, i_6, n_10, ())) w :=
  pc_loopE (l := lz_parts_l12) (l' := lz_parts_l13) (body := fun (c2 : (Int × Unit) → (Bs × Addr × Nat × Int × Int × Unit) → World → Prop) (s : Int × Unit) => lz_parts_12 c2 c1 R s.1 s_0 b_3 last_4 i_6 n_10) (id := 2) (b := (Code.at lz_parts_B [.snd, .snd, .snd, .snd, .fst, .snd, .blk, .blk, .snd, .blk, .snd, .snd, .snd, .snd, .snd, .snd, .snd, .fst, .snd, .blk, .blk])) (by kernel_rfl) (fun c2 s w h => lz_parts_12_ok c2 c1 R s.1 s_0 b_3 last_4 i_6 n_10 w h) h
theorem lz_parts_10_ok (c1 : (Int × Int × Unit) → (Bs × Addr × Nat × Unit) → World → Prop) (R : Bs → World → Prop) (s_0 : Bs) (b_3 : Addr) (last_4 : Nat) (i_6 : Int) (n_10 : Int) (w : World) (h : lz_parts_10 c1 R s_0 b_3 last_4 i_6 n_10 w) : WPC P 89 [] (Code.at lz_parts_B [.snd, .snd, .snd, .snd, .fst, .snd, .blk, .blk, .snd, .blk, .snd, .snd, .snd, .snd, .snd, .snd, .snd, .fst]) (thenQ (fun env => getE env lz_parts_l10 fun (x : Bs × Addr × Nat × Int × Int × Unit) => lz_parts_9 c1 R x.1 x.2.1 x.2.2.1 x.2.2.2.1 x.2.2.2.2.1) (blockQ 1 ((thenQ (fun env => getE env lz_parts_l5 fun (s : Int × Int × Unit) => getE env lz_parts_l6 (c1 s)) (blockQ 0 ((thenQ (fun env => getE env lz_parts_l3 fun (x : Bs × Addr × Int × Unit) => lz_parts_2 R x.1 x.2.1 x.2.2.1) (topQ P [.tmp 2] .s R)) .normal) (thenQ (fun env => getE env lz_parts_l3 fun (x : Bs × Addr × Int × Unit) => lz_parts_2 R x.1 x.2.1 x.2.2.1) (topQ P [.tmp 2] .s R)))) .normal) (thenQ (fun env => getE env lz_parts_l5 fun (s : Int × Int × Unit) => getE env lz_parts_l6 (c1 s)) (blockQ 0 ((thenQ (fun env => getE env lz_parts_l3 fun (x : Bs × Addr × Int × Unit) => lz_parts_2 R x.1 x.2.1 x.2.2.1) (topQ P [.tmp 2] .s R)) .normal) (thenQ (fun env => getE env lz_parts_l3 fun (x : Bs × Addr × Int × Unit) => lz_parts_2 R x.1 x.2.1 x.2.2.1) (topQ P [.tmp 2] .s R)))))) (mkE 89 lz_parts_l11 (s_0, b_3, last_4, i_6, n_10, ())) w :=
  pc_cut2 (T := lz_parts_10 c1 R s_0 b_3 last_4 i_6 n_10 w) (l := lz_parts_l12) (l' := lz_parts_l13) (F := fun (x : Int × Unit) (y : Bs × Addr × Nat × Int × Int × Unit) => lz_parts_11 c1 R x.1 y.1 y.2.1 y.2.2.1 y.2.2.2.1 y.2.2.2.2.1) hmix 1 (mkE_len ..) (by kernel_rfl) (fun x y w h => lz_parts_11_ok c1 R x.1 y.1 y.2.1 y.2.2.1 y.2.2.2.1 y.2.2.2.2.1 w h) (by kernel_rfl) h
theorem lz_parts_8_ok (c1 : (Int × Int × Unit) → (Bs × Addr × Nat × Unit) → World → Prop) (R : Bs → World → Prop) (s_0 : Bs) (b_3 : Addr) (last_4 : Nat) (i_6 : Int) (n_10 : Int) (w : World) (h : lz_parts_8 c1 R s_0 b_3 last_4 i_6 n_10 w) : WPC P 89 [] (Code.at lz_parts_B [.snd, .snd, .snd, .snd, .fst, .snd, .blk, .blk, .snd, .blk, .snd, .snd, .snd, .snd, .snd, .snd, .snd]) (blockQ 1 ((thenQ (fun env => getE env lz_parts_l5 fun (s : Int × Int × Unit) => getE env lz_parts_l6 (c1 s)) (blockQ 0 ((thenQ (fun env => getE env lz_parts_l3 fun (x : Bs × Addr × Int × Unit) => lz_parts_2 R x.1 x.2.1 x.2.2.1) (topQ P [.tmp 2] .s R)) .normal) (thenQ (fun env => getE env lz_parts_l3 fun (x : Bs × Addr × Int × Unit) => lz_parts_2 R x.1 x.2.1 x.2.2.1) (topQ P [.tmp 2] .s R)))) .normal) (thenQ (fun env => getE env lz_parts_l5 fun (s : Int × Int × Unit) => getE env lz_parts_l6 (c1 s)) (blockQ 0 ((thenQ (fun env => getE env lz_parts_l3 fun (x : Bs × Addr × Int × Unit) => lz_parts_2 R x.1 x.2.1 x.2.2.1) (topQ P [.tmp 2] .s R)) .normal) (thenQ (fun env => getE env lz_parts_l3 fun (x : Bs × Addr × Int × Unit) => lz_parts_2 R x.1 x.2.1 x.2.2.1) (topQ P [.tmp 2] .s R))))) (mkE 89 lz_parts_l9 (s_0, b_3, last_4, i_6, n_10, ())) w :=
  pc_seq (l := lz_parts_l10) (F := fun (x : Bs × Addr × Nat × Int × Int × Unit) => lz_parts_9 c1 R x.1 x.2.1 x.2.2.1 x.2.2.2.1 x.2.2.2.2.1) (a := (Code.at lz_parts_B [.snd, .snd, .snd, .snd, .fst, .snd, .blk, .blk, .snd, .blk, .snd, .snd, .snd, .snd, .snd, .snd, .snd, .fst])) (b := (Code.at lz_parts_B [.snd, .snd, .snd, .snd, .fst, .snd, .blk, .blk, .snd, .blk, .snd, .snd, .snd, .snd, .snd, .snd, .snd, .snd])) (by kernel_rfl) (pc_cut (T := (lz_parts_10 c1 R s_0 b_3 last_4 i_6 n_10) w) (l := lz_parts_l11) (F := fun (x : Bs × Addr × Nat × Int × Int × Unit) => lz_parts_10 c1 R x.1 x.2.1 x.2.2.1 x.2.2.2.1 x.2.2.2.2.1) (c := (Code.at lz_parts_B [.snd, .snd, .snd, .snd, .fst, .snd, .blk, .blk, .snd, .blk, .snd, .snd, .snd, .snd, .snd, .snd, .snd, .fst])) hmix 0 (mkE_len ..) (by kernel_rfl) (fun x w h => lz_parts_10_ok c1 R x.1 x.2.1 x.2.2.1 x.2.2.2.1 x.2.2.2.2.1 w h) (by kernel_rfl) h) (fun x w h => lz_parts_9_ok c1 R x.1 x.2.1 x.2.2.1 x.2.2.2.1 x.2.2.2.2.1 w h)
theorem lz_parts_7_ok (c1 : (Int × Int × Unit) → (Bs × Addr × Nat × Unit) → World → Prop) (R : Bs → World → Prop) (s_0 : Bs) (b_3 : Addr) (last_4 : Nat) (from_5 : Int) (i_6 : Int) (w : World) (h : lz_parts_7 c1 R s_0 b_3 last_4 from_5 i_6 w) : WPC P 89 [] (Code.at lz_parts_B [.snd, .snd, .snd, .snd, .fst, .snd, .blk, .blk, .snd, .blk]) (blockQ 1 ((thenQ (fun env => getE env lz_parts_l5 fun (s : Int × Int × Unit) => getE env lz_parts_l6 (c1 s)) (blockQ 0 ((thenQ (fun env => getE env lz_parts_l3 fun (x : Bs × Addr × Int × Unit) => lz_parts_2 R x.1 x.2.1 x.2.2.1) (topQ P [.tmp 2] .s R)) .normal) (thenQ (fun env => getE env lz_parts_l3 fun (x : Bs × Addr × Int × Unit) => lz_parts_2 R x.1 x.2.1 x.2.2.1) (topQ P [.tmp 2] .s R)))) .normal) (thenQ (fun env => getE env lz_parts_l5 fun (s : Int × Int × Unit) => getE env lz_parts_l6 (c1 s)) (blockQ 0 ((thenQ (fun env => getE env lz_parts_l3 fun (x : Bs × Addr × Int × Unit) => lz_parts_2 R x.1 x.2.1 x.2.2.1) (topQ P [.tmp 2] .s R)) .normal) (thenQ (fun env => getE env lz_parts_l3 fun (x : Bs × Addr × Int × Unit) => lz_parts_2 R x.1 x.2.1 x.2.2.1) (topQ P [.tmp 2] .s R))))) (mkE 89 lz_parts_l8 (s_0, b_3, last_4, from_5, i_6, ())) w :=
  pc_cut (T := lz_parts_7 c1 R s_0 b_3 last_4 from_5 i_6 w) (l := lz_parts_l9) (F := fun (x : Bs × Addr × Nat × Int × Int × Unit) => lz_parts_8 c1 R x.1 x.2.1 x.2.2.1 x.2.2.2.1 x.2.2.2.2.1) hmix 7 (mkE_len ..) (by kernel_rfl) (fun x w h => lz_parts_8_ok c1 R x.1 x.2.1 x.2.2.1 x.2.2.2.1 x.2.2.2.2.1 w h) (by kernel_rfl) h
theorem lz_parts_6_ok (c1 : (Int × Int × Unit) → (Bs × Addr × Nat × Unit) → World → Prop) (R : Bs → World → Prop) (s_0 : Bs) (b_3 : Addr) (last_4 : Nat) (from_5 : Int) (i_6 : Int) (w : World) (h : lz_parts_6 c1 R s_0 b_3 last_4 from_5 i_6 w) : WPC P 89 [] (Code.at lz_parts_B [.snd, .snd, .snd, .snd, .fst, .snd, .blk, .blk, .snd]) (thenQ (fun env => getE env lz_parts_l5 fun (s : Int × Int × Unit) => getE env lz_parts_l6 (c1 s)) (blockQ 0 ((thenQ (fun env => getE env lz_parts_l3 fun (x : Bs × Addr × Int × Unit) => lz_parts_2 R x.1 x.2.1 x.2.2.1) (topQ P [.tmp 2] .s R)) .normal) (thenQ (fun env => getE env lz_parts_l3 fun (x : Bs × Addr × Int × Unit) => lz_parts_2 R x.1 x.2.1 x.2.2.1) (topQ P [.tmp 2] .s R)))) (mkE 89 lz_parts_l7 (s_0, b_3, last_4, from_5, i_6, ())) w :=
  pc_block (c := (Code.at lz_parts_B [.snd, .snd, .snd, .snd, .fst, .snd, .blk, .blk, .snd, .blk])) (id := 1) (by kernel_rfl) (pc_cut (T := (lz_parts_7 c1 R s_0 b_3 last_4 from_5 i_6) w) (l := lz_parts_l8) (F := fun (x : Bs × Addr × Nat × Int × Int × Unit) => lz_parts_7 c1 R x.1 x.2.1 x.2.2.1 x.2.2.2.1 x.2.2.2.2.1) (c := (Code.at lz_parts_B [.snd, .snd, .snd, .snd, .fst, .snd, .blk, .blk, .snd, .blk])) hmix 0 (mkE_len ..) (by kernel_rfl) (fun x w h => lz_parts_7_ok c1 R x.1 x.2.1 x.2.2.1 x.2.2.2.1 x.2.2.2.2.1 w h) (by kernel_rfl) h)
theorem lz_parts_5_ok (c1 : (Int × Int × Unit) → (Bs × Addr × Nat × Unit) → World → Prop) (R : Bs → World → Prop) (from_5 : Int) (i_6 : Int) (s_0 : Bs) (b_3 : Addr) (last_4 : Nat) (w : World) (h : lz_parts_5 c1 R from_5 i_6 s_0 b_3 last_4 w) : WPC P 89 [] (Code.at lz_parts_B [.snd, .snd, .snd, .snd, .fst, .snd, .blk, .blk]) (thenQ (fun env => getE env lz_parts_l5 fun (s : Int × Int × Unit) => getE env lz_parts_l6 (c1 s)) (blockQ 0 ((thenQ (fun env => getE env lz_parts_l3 fun (x : Bs × Addr × Int × Unit) => lz_parts_2 R x.1 x.2.1 x.2.2.1) (topQ P [.tmp 2] .s R)) .normal) (thenQ (fun env => getE env lz_parts_l3 fun (x : Bs × Addr × Int × Unit) => lz_parts_2 R x.1 x.2.1 x.2.2.1) (topQ P [.tmp 2] .s R)))) (mkE2 89 lz_parts_l5 lz_parts_l6 (from_5, i_6, ()) (s_0, b_3, last_4, ())) w :=
  pc_cut (T := lz_parts_5 c1 R from_5 i_6 s_0 b_3 last_4 w) (l := lz_parts_l7) (F := fun (x : Bs × Addr × Nat × Int × Int × Unit) => lz_parts_6 c1 R x.1 x.2.1 x.2.2.1 x.2.2.2.1 x.2.2.2.2.1) hmix 1 (mkE2_len ..) (by kernel_rfl) (fun x w h => lz_parts_6_ok c1 R x.1 x.2.1 x.2.2.1 x.2.2.2.1 x.2.2.2.2.1 w h) (by kernel_rfl) h
theorem lz_parts_4_ok (R : Bs → World → Prop) (from_5 : Int) (i_6 : Int) (s_0 : Bs) (b_3 : Addr) (last_4 : Nat) (w : World) (h : lz_parts_4 R from_5 i_6 s_0 b_3 last_4 w) : WPC P 89 [] (Code.at lz_parts_B [.snd, .snd, .snd, .snd, .fst, .snd]) (thenQ (fun env => getE env lz_parts_l3 fun (x : Bs × Addr × Int × Unit) => lz_parts_2 R x.1 x.2.1 x.2.2.1) (topQ P [.tmp 2] .s R)) (mkE2 89 lz_parts_l5 lz_parts_l6 (from_5, i_6, ()) (s_0, b_3, last_4, ())) w :=
  pc_loopE (l := lz_parts_l5) (l' := lz_parts_l6) (body := fun (c1 : (Int × Int × Unit) → (Bs × Addr × Nat × Unit) → World → Prop) (s : Int × Int × Unit) => lz_parts_5 c1 R s.1 s.2.1 s_0 b_3 last_4) (id := 0) (b := (Code.at lz_parts_B [.snd, .snd, .snd, .snd, .fst, .snd, .blk, .blk])) (by kernel_rfl) (fun c1 s w h => lz_parts_5_ok c1 R s.1 s.2.1 s_0 b_3 last_4 w h) h
theorem lz_parts_3_ok (R : Bs → World → Prop) (s_0 : Bs) (b_3 : Addr) (last_4 : Nat) (from_5 : Int) (w : World) (h : lz_parts_3 R s_0 b_3 last_4 from_5 w) : WPC P 89 [] (Code.at lz_parts_B [.snd, .snd, .snd, .snd, .fst]) (thenQ (fun env => getE env lz_parts_l3 fun (x : Bs × Addr × Int × Unit) => lz_parts_2 R x.1 x.2.1 x.2.2.1) (topQ P [.tmp 2] .s R)) (mkE 89 lz_parts_l4 (s_0, b_3, last_4, from_5, ())) w :=
  pc_cut2 (T := lz_parts_3 R s_0 b_3 last_4 from_5 w) (l := lz_parts_l5) (l' := lz_parts_l6) (F := fun (x : Int × Int × Unit) (y : Bs × Addr × Nat × Unit) => lz_parts_4 R x.1 x.2.1 y.1 y.2.1 y.2.2.1) hmix 1 (mkE_len ..) (by kernel_rfl) (fun x y w h => lz_parts_4_ok R x.1 x.2.1 y.1 y.2.1 y.2.2.1 w h) (by kernel_rfl) h
theorem lz_parts_1_ok (R : Bs → World → Prop) (s_0 : Bs) (b_3 : Addr) (last_4 : Nat) (from_5 : Int) (w : World) (h : lz_parts_1 R s_0 b_3 last_4 from_5 w) : WPC P 89 [] (Code.at lz_parts_B [.snd, .snd, .snd, .snd]) (topQ P [.tmp 2] .s R) (mkE 89 lz_parts_l2 (s_0, b_3, last_4, from_5, ())) w :=
  pc_seq (l := lz_parts_l3) (F := fun (x : Bs × Addr × Int × Unit) => lz_parts_2 R x.1 x.2.1 x.2.2.1) (a := (Code.at lz_parts_B [.snd, .snd, .snd, .snd, .fst])) (b := (Code.at lz_parts_B [.snd, .snd, .snd, .snd, .snd])) (by kernel_rfl) (pc_cut (T := (lz_parts_3 R s_0 b_3 last_4 from_5) w) (l := lz_parts_l4) (F := fun (x : Bs × Addr × Nat × Int × Unit) => lz_parts_3 R x.1 x.2.1 x.2.2.1 x.2.2.2.1) (c := (Code.at lz_parts_B [.snd, .snd, .snd, .snd, .fst])) hmix 0 (mkE_len ..) (by kernel_rfl) (fun x w h => lz_parts_3_ok R x.1 x.2.1 x.2.2.1 x.2.2.2.1 w h) (by kernel_rfl) h) (fun x w h => lz_parts_2_ok R x.1 x.2.1 x.2.2.1 w h)
theorem lz_parts_0_ok (R : Bs → World → Prop) (s_0 : Bs) (w : World) (h : lz_parts_0 R s_0 w) : WPC P 89 [] (Code.at lz_parts_B []) (topQ P [.tmp 2] .s R) (mkE 89 lz_parts_l1 (s_0, ())) w :=
  pc_cut (T := lz_parts_0 R s_0 w) (l := lz_parts_l2) (F := fun (x : Bs × Addr × Nat × Int × Unit) => lz_parts_1 R x.1 x.2.1 x.2.2.1 x.2.2.2.1) hmix 4 (mkE_len ..) (by kernel_rfl) (fun x w h => lz_parts_1_ok R x.1 x.2.1 x.2.2.1 x.2.2.2.1 w h) (by kernel_rfl) h
theorem lz_parts_call (R : Bs → World → Prop) (s_0 : Bs) (w : World) (h : lz_parts_0 R s_0 w) : mcall P n_lz_parts [(.string ⟨s_0.toArray⟩)] .s R w :=
  pc_top (T := (lz_parts_0 R s_0) w) (l := lz_parts_l1) (F := fun (x : Bs × Unit) => lz_parts_0 R x.1) (n := 89) (c := lz_parts_B) Tryz.func21 rfl (by kernel_rfl) (by kernel_rfl) (by kernel_rfl) (fun x w h => lz_parts_0_ok R x.1 w h) (by kernel_rfl) h
/- headgate frame.Check -/
noncomputable abbrev frame_Check_B : Code := (Tryz.f22.body).getD .skip
abbrev frame_Check_l1 : Slots := [(0, k_api_Record)]
def frame_Check_0 (R : Int → World → Prop) (e_0 : T_api_Record) : World → Prop :=
 bx P t_api_Entry k_api_Record e_0 fun a1 =>
 ld P t_int a1 I fun (x2 : Int) =>
 mif (decide (x2 < 0))
 (R 1)
 (ld P t_int a1 I fun (x3 : Int) =>
 mif (decide (x3 > 1099511627776))
 (R 1)
 (ld P t_int (ad a1 1) I fun (x4 : Int) =>
 mif (decide (x4 < 1))
 (R 1)
 (ld P t_int (ad a1 1) I fun (x5 : Int) =>
 mif (decide (x5 > 64))
 (R 1)
 (ld P t_string (ad a1 2) .s fun (x6 : Bs) =>
 mif (decide ((x6.length : Int) > 65536))
 (R 1)
 (R 0)))))
theorem frame_Check_0_ok (R : Int → World → Prop) (e_0 : T_api_Record) (w : World) (h : frame_Check_0 R e_0 w) : WPC P 27 [] (Code.at frame_Check_B []) (topQ P [.tmp 2] I R) (mkE 27 frame_Check_l1 (e_0, ())) w :=
  pc_end (T := frame_Check_0 R e_0 w) hmix (by kernel_rfl) h
theorem frame_Check_call (R : Int → World → Prop) (e_0 : T_api_Record) (w : World) (h : frame_Check_0 R e_0 w) : mcall P n_frame_Check [(KV k_api_Record e_0)] I R w :=
  pc_top (T := (frame_Check_0 R e_0) w) (l := frame_Check_l1) (F := fun (x : T_api_Record × Unit) => frame_Check_0 R x.1) (n := 27) (c := frame_Check_B) Tryz.func22 rfl (by kernel_rfl) (by kernel_rfl) (by kernel_rfl) (fun x w h => frame_Check_0_ok R x.1 w h) (by kernel_rfl) h
/- headgate crc.Seal -/
noncomputable abbrev crc_Seal_B : Code := (Tryz.f23.body).getD .skip
abbrev crc_Seal_l1 : Slots := [(0, .s)]
def crc_Seal_0 (R : Bs → World → Prop) (s_0 : Bs) : World → Prop :=
 mcall P n_crc_Sum [(.string ⟨s_0.toArray⟩)] (.i .u32) fun (x1 : Int) =>
 bsl P t_sl_uint8 (.i .u8) [wr8 x1, wr8 (ishr .u32 x1 8), wr8 (ishr .u32 x1 16), wr8 (ishr .u32 x1 24)] fun x2 =>
 mrd P (convert t_sl_uint8 t_string (.slice x2.a x2.len x2.cap)) .s fun (x3 : Bs) =>
 mcat s_0 x3 fun s4 =>
 R s4
theorem crc_Seal_0_ok (R : Bs → World → Prop) (s_0 : Bs) (w : World) (h : crc_Seal_0 R s_0 w) : WPC P 21 [] (Code.at crc_Seal_B []) (topQ P [.tmp 2] .s R) (mkE 21 crc_Seal_l1 (s_0, ())) w :=
  pc_end (T := crc_Seal_0 R s_0 w) hmix (by kernel_rfl) h
theorem crc_Seal_call (R : Bs → World → Prop) (s_0 : Bs) (w : World) (h : crc_Seal_0 R s_0 w) : mcall P n_crc_Seal [(.string ⟨s_0.toArray⟩)] .s R w :=
  pc_top (T := (crc_Seal_0 R s_0) w) (l := crc_Seal_l1) (F := fun (x : Bs × Unit) => crc_Seal_0 R x.1) (n := 21) (c := crc_Seal_B) Tryz.func23 rfl (by kernel_rfl) (by kernel_rfl) (by kernel_rfl) (fun x w h => crc_Seal_0_ok R x.1 w h) (by kernel_rfl) h
/- headgate varint.PutText -/
noncomputable abbrev varint_PutText_B : Code := (Tryz.f24.body).getD .skip
abbrev varint_PutText_l1 : Slots := [(0, .s)]
def varint_PutText_0 (R : Bs → World → Prop) (s_0 : Bs) : World → Prop :=
 mcall P n_varint_Put [(.int .i64 (s_0.length : Int))] .s fun (x1 : Bs) =>
 mcat x1 s_0 fun s2 =>
 R s2
theorem varint_PutText_0_ok (R : Bs → World → Prop) (s_0 : Bs) (w : World) (h : varint_PutText_0 R s_0 w) : WPC P 8 [] (Code.at varint_PutText_B []) (topQ P [.tmp 2] .s R) (mkE 8 varint_PutText_l1 (s_0, ())) w :=
  pc_end (T := varint_PutText_0 R s_0 w) hmix (by kernel_rfl) h
theorem varint_PutText_call (R : Bs → World → Prop) (s_0 : Bs) (w : World) (h : varint_PutText_0 R s_0 w) : mcall P n_varint_PutText [(.string ⟨s_0.toArray⟩)] .s R w :=
  pc_top (T := (varint_PutText_0 R s_0) w) (l := varint_PutText_l1) (F := fun (x : Bs × Unit) => varint_PutText_0 R x.1) (n := 8) (c := varint_PutText_B) Tryz.func24 rfl (by kernel_rfl) (by kernel_rfl) (by kernel_rfl) (fun x w h => varint_PutText_0_ok R x.1 w h) (by kernel_rfl) h
/- headgate frame.Each -/
noncomputable abbrev frame_Each_B : Code := (Tryz.f25.body).getD .skip
abbrev frame_Each_l1 : Slots := [(0, .s)]
def frame_Each_0 (R : Value → World → Prop) (s_0 : Bs) : World → Prop :=
 bx P t_string .s s_0 fun a1 =>
 R (.func (.func n_frame_Each_c1) #[] #[.pointer (some a1)])
theorem frame_Each_0_ok (R : Value → World → Prop) (s_0 : Bs) (w : World) (h : frame_Each_0 R s_0 w) : WPC P 4 [] (Code.at frame_Each_B []) (topQ P [.tmp 2] .v R) (mkE 4 frame_Each_l1 (s_0, ())) w :=
  pc_end (T := frame_Each_0 R s_0 w) hmix (by kernel_rfl) h
theorem frame_Each_call (R : Value → World → Prop) (s_0 : Bs) (w : World) (h : frame_Each_0 R s_0 w) : mcall P n_frame_Each [(.string ⟨s_0.toArray⟩)] .v R w :=
  pc_top (T := (frame_Each_0 R s_0) w) (l := frame_Each_l1) (F := fun (x : Bs × Unit) => frame_Each_0 R x.1) (n := 4) (c := frame_Each_B) Tryz.func25 rfl (by kernel_rfl) (by kernel_rfl) (by kernel_rfl) (fun x w h => frame_Each_0_ok R x.1 w h) (by kernel_rfl) h
/- headgate varint.Take -/
noncomputable abbrev varint_Take_B : Code := (Tryz.f26.body).getD .skip
abbrev varint_Take_l1 : Slots := [(0, .s)]
abbrev varint_Take_l2 : Slots := [(0, .s)]
abbrev varint_Take_l3 : Slots := [(5, (.i .u64)), (6, I)]
abbrev varint_Take_l4 : Slots := [(0, .s)]
abbrev varint_Take_l5 : Slots := [(0, .s), (5, (.i .u64)), (6, I)]
def varint_Take_3 (c1 : (Int × Int × Unit) → (Bs × Unit) → World → Prop) (R : (Int × Bs × Int × Unit) → World → Prop) (s_0 : Bs) (u_5 : Int) (k_6 : Int) : World → Prop :=
 mdraw <|
 sls P t_string s_0 (some k_6) none fun (x2 : Bs) =>
 R (ixor .i64 (w64 (ishr .u64 u_5 1)) (w64 (0 - (w64 (iand .u64 u_5 1)))), x2, 0, ())
def varint_Take_2 (c1 : (Int × Int × Unit) → (Bs × Unit) → World → Prop) (R : (Int × Bs × Int × Unit) → World → Prop) (u_5 : Int) (k_6 : Int) (s_0 : Bs) : World → Prop :=
 mif (k_6 == (s_0.length : Int))
 (R (0, [], 2, ()))
 (mif (k_6 == 10)
 (R (0, [], 2, ()))
 (ixs P t_string s_0 k_6 fun (x1 : Int) =>
 mng (w64 (7 * k_6)) <|
 mif (decide (x1 ≥ 128))
 (c1 (ior .u64 u_5 (ishl .u64 (wr64 (iand .u8 x1 127)) (w64 (7 * k_6))), w64 (k_6 + 1), ()) (s_0, ()))
 (mif (decide ((w64 (k_6 + 1)) > 1))
 (mif (x1 == 0)
 (R (0, [], 2, ()))
 (mif ((w64 (k_6 + 1)) == 10)
 (mif (decide (x1 > 1))
 (R (0, [], 2, ()))
 (varint_Take_3 c1 R s_0 (ior .u64 u_5 (ishl .u64 (wr64 (iand .u8 x1 127)) (w64 (7 * k_6)))) (w64 (k_6 + 1))))
 (varint_Take_3 c1 R s_0 (ior .u64 u_5 (ishl .u64 (wr64 (iand .u8 x1 127)) (w64 (7 * k_6)))) (w64 (k_6 + 1)))))
 (mif ((w64 (k_6 + 1)) == 10)
 (mif (decide (x1 > 1))
 (R (0, [], 2, ()))
 (varint_Take_3 c1 R s_0 (ior .u64 u_5 (ishl .u64 (wr64 (iand .u8 x1 127)) (w64 (7 * k_6)))) (w64 (k_6 + 1))))
 (varint_Take_3 c1 R s_0 (ior .u64 u_5 (ishl .u64 (wr64 (iand .u8 x1 127)) (w64 (7 * k_6)))) (w64 (k_6 + 1)))))))
def varint_Take_1 (R : (Int × Bs × Int × Unit) → World → Prop) (s_0 : Bs) : World → Prop :=
 W.Loop (s_0, ()) (fun (c1 : (Int × Int × Unit) → (Bs × Unit) → World → Prop) (s : Int × Int × Unit) => varint_Take_2 c1 R s.1 s.2.1 s_0) (0, 0, ())
def varint_Take_0 (R : (Int × Bs × Int × Unit) → World → Prop) (s_0 : Bs) : World → Prop :=
 varint_Take_1 R s_0
theorem varint_Take_3_ok (c1 : (Int × Int × Unit) → (Bs × Unit) → World → Prop) (R : (Int × Bs × Int × Unit) → World → Prop) (s_0 : Bs) (u_5 : Int) (k_6 : Int) (w : World) (h : varint_Take_3 c1 R s_0 u_5 k_6 w) : WPC P 56 [] (Code.at varint_Take_B [.snd, .blk, .snd, .snd, .snd, .snd, .snd, .snd, .snd, .snd, .snd]) (gotoQ 0 (fun env => getE env varint_Take_l3 fun (s : Int × Int × Unit) => getE env varint_Take_l4 (c1 s)) (topQ P [.tmp 2, .tmp 3, .tmp 4] (.tup [I, .s, I]) R)) (mkE 56 varint_Take_l5 (s_0, u_5, k_6, ())) w :=
  pc_end (T := varint_Take_3 c1 R s_0 u_5 k_6 w) hmix (by kernel_rfl) h
theorem varint_Take_2_ok (c1 : (Int × Int × Unit) → (Bs × Unit) → World → Prop) (R : (Int × Bs × Int × Unit) → World → Prop) (u_5 : Int) (k_6 : Int) (s_0 : Bs) (w : World) (h : varint_Take_2 c1 R u_5 k_6 s_0 w) : WPC P 56 [] (Code.at varint_Take_B [.snd, .blk, .snd, .snd, .snd]) (gotoQ 0 (fun env => getE env varint_Take_l3 fun (s : Int × Int × Unit) => getE env varint_Take_l4 (c1 s)) (topQ P [.tmp 2, .tmp 3, .tmp 4] (.tup [I, .s, I]) R)) (mkE2 56 varint_Take_l3 varint_Take_l4 (u_5, k_6, ()) (s_0, ())) w :=
  pc_cut (T := varint_Take_2 c1 R u_5 k_6 s_0 w) (l := varint_Take_l5) (F := fun (x : Bs × Int × Int × Unit) => varint_Take_3 c1 R x.1 x.2.1 x.2.2.1) hmix 6 (mkE2_len ..) (by kernel_rfl) (fun x w h => varint_Take_3_ok c1 R x.1 x.2.1 x.2.2.1 w h) (by kernel_rfl) h
theorem varint_Take_1_ok (R : (Int × Bs × Int × Unit) → World → Prop) (s_0 : Bs) (w : World) (h : varint_Take_1 R s_0 w) : WPC P 56 [] (Code.at varint_Take_B [.snd]) (topQ P [.tmp 2, .tmp 3, .tmp 4] (.tup [I, .s, I]) R) (mkE 56 varint_Take_l2 (s_0, ())) w :=
  pc_scope (T := (W.Loop (s_0, ()) (fun (c1 : (Int × Int × Unit) → (Bs × Unit) → World → Prop) (s : Int × Int × Unit) => varint_Take_2 c1 R s.1 s.2.1 s_0) (0, 0, ())) w) (l := varint_Take_l3) (l' := varint_Take_l4) (c := (Code.at varint_Take_B [.snd, .blk])) (b := .seq .skip (Code.at varint_Take_B [.snd, .blk, .snd, .snd, .snd])) (id := 0) (m := 2) (body := fun (y : Bs × Unit) (c1 : (Int × Int × Unit) → (Bs × Unit) → World → Prop) (s : Int × Int × Unit) => varint_Take_2 c1 R s.1 s.2.1 y.1) (c' := (Code.at varint_Take_B [.snd, .blk, .snd, .snd])) hmix (by kernel_rfl) (by kernel_rfl) (by kernel_rfl) (mkE_len ..) (fun y c1 s w h => pc_cut2 (T := varint_Take_2 c1 R s.1 s.2.1 y.1 w) (l := varint_Take_l3) (l' := varint_Take_l4) (F := fun (s : Int × Int × Unit) (y : Bs × Unit) => varint_Take_2 c1 R s.1 s.2.1 y.1) (c := (.seq .skip (Code.at varint_Take_B [.snd, .blk, .snd, .snd, .snd]))) (c' := (Code.at varint_Take_B [.snd, .blk, .snd, .snd, .snd])) hmix 1 (mkE2_len ..) (by kernel_rfl) (fun s y w h => varint_Take_2_ok c1 R s.1 s.2.1 y.1 w h) (by kernel_rfl) h) (fun y c1 s w h => pc_cut2 (T := varint_Take_2 c1 R s.1 s.2.1 y.1 w) (l := varint_Take_l3) (l' := varint_Take_l4) (F := fun (s : Int × Int × Unit) (y : Bs × Unit) => varint_Take_2 c1 R s.1 s.2.1 y.1) (c := (Code.at varint_Take_B [.snd, .blk, .snd, .snd])) (c' := (Code.at varint_Take_B [.snd, .blk, .snd, .snd, .snd])) hmix 1 (mkE2_len ..) (by kernel_rfl) (fun s y w h => varint_Take_2_ok c1 R s.1 s.2.1 y.1 w h) (by kernel_rfl) h) (by kernel_rfl) h
theorem varint_Take_0_ok (R : (Int × Bs × Int × Unit) → World → Prop) (s_0 : Bs) (w : World) (h : varint_Take_0 R s_0 w) : WPC P 56 [] (Code.at varint_Take_B []) (topQ P [.tmp 2, .tmp 3, .tmp 4] (.tup [I, .s, I]) R) (mkE 56 varint_Take_l1 (s_0, ())) w :=
  pc_cut (T := varint_Take_0 R s_0 w) (l := varint_Take_l2) (F := fun (x : Bs × Unit) => varint_Take_1 R x.1) hmix 1 (mkE_len ..) (by kernel_rfl) (fun x w h => varint_Take_1_ok R x.1 w h) (by kernel_rfl) h
theorem varint_Take_call (R : (Int × Bs × Int × Unit) → World → Prop) (s_0 : Bs) (w : World) (h : varint_Take_0 R s_0 w) : mcall P n_varint_Take [(.string ⟨s_0.toArray⟩)] (.tup [I, .s, I]) R w :=
  pc_top (T := (varint_Take_0 R s_0) w) (l := varint_Take_l1) (F := fun (x : Bs × Unit) => varint_Take_0 R x.1) (n := 56) (c := varint_Take_B) Tryz.func26 rfl (by kernel_rfl) (by kernel_rfl) (by kernel_rfl) (fun x w h => varint_Take_0_ok R x.1 w h) (by kernel_rfl) h
/- headgate varint.TakeAll -/
noncomputable abbrev varint_TakeAll_B : Code := (Tryz.f27.body).getD .skip
abbrev varint_TakeAll_l1 : Slots := [(0, .s), (1, I)]
abbrev varint_TakeAll_l2 : Slots := [(0, .s), (1, I), (7, .sl)]
abbrev varint_TakeAll_l3 : Slots := [(0, .s), (7, .sl)]
def varint_TakeAll_2 (R : (Sl × Bs × Int × Unit) → World → Prop) (s_0 : Bs) (l_7 : Sl) : World → Prop :=
 R (l_7, s_0, 0, ())
abbrev varint_TakeAll_l4 : Slots := [(0, .s), (1, I), (7, .sl)]
abbrev varint_TakeAll_l5 : Slots := [(0, .s), (7, .sl), (18, I)]
abbrev varint_TakeAll_l6 : Slots := [(17, I)]
def varint_TakeAll_5 (c1 : (Bs × Sl × Int × Unit) → (Int × Unit) → World → Prop) (R : (Sl × Bs × Int × Unit) → World → Prop) (s_0 : Bs) (l_7 : Sl) (v18 : Int) (v17 : Int) : World → Prop :=
 mif (decide (v18 < v17))
 (mcall P n_varint_Take [(.string ⟨s_0.toArray⟩)] (.tup [I, .s, I]) fun (x1 : Int × Bs × Int × Unit) =>
 mif (x1.2.2.1 != 0)
 (R (⟨none, 0, 0⟩, [], x1.2.2.1, ()))
 (bsl P t_sl_int I [x1.1] fun x2 =>
 app P #[t_sl_int, t_sl_int] t_sl_int (Sl.v l_7) (Sl.v x2) fun (x3 : Sl) =>
 c1 (x1.2.1, x3, w64 (v18 + 1), ()) (v17, ())))
 (varint_TakeAll_2 R s_0 l_7)
def varint_TakeAll_4 (R : (Sl × Bs × Int × Unit) → World → Prop) (s_0 : Bs) (l_7 : Sl) (v18 : Int) (v17 : Int) : World → Prop :=
 W.Loop (v17, ()) (fun (c1 : (Bs × Sl × Int × Unit) → (Int × Unit) → World → Prop) (s : Bs × Sl × Int × Unit) => varint_TakeAll_5 c1 R s.1 s.2.1 s.2.2.1 v17) (s_0, l_7, v18, ())
def varint_TakeAll_3 (R : (Sl × Bs × Int × Unit) → World → Prop) (s_0 : Bs) (n_1 : Int) (l_7 : Sl) : World → Prop :=
 varint_TakeAll_4 R s_0 l_7 0 n_1
def varint_TakeAll_1 (R : (Sl × Bs × Int × Unit) → World → Prop) (s_0 : Bs) (n_1 : Int) (l_7 : Sl) : World → Prop :=
 varint_TakeAll_3 R s_0 n_1 l_7
def varint_TakeAll_0 (R : (Sl × Bs × Int × Unit) → World → Prop) (s_0 : Bs) (n_1 : Int) : World → Prop :=
 mif (decide (n_1 < 0))
 (R (⟨none, 0, 0⟩, [], 1, ()))
 (mif (decide (n_1 > 64))
 (R (⟨none, 0, 0⟩, [], 1, ()))
 (varint_TakeAll_1 R s_0 n_1 ⟨none, 0, 0⟩))
theorem varint_TakeAll_2_ok (R : (Sl × Bs × Int × Unit) → World → Prop) (s_0 : Bs) (l_7 : Sl) (w : World) (h : varint_TakeAll_2 R s_0 l_7 w) : WPC P 37 [] (Code.at varint_TakeAll_B [.snd, .snd, .snd, .snd]) (topQ P [.tmp 4, .tmp 5, .tmp 6] (.tup [.sl, .s, I]) R) (mkE 37 varint_TakeAll_l3 (s_0, l_7, ())) w :=
  pc_end (T := varint_TakeAll_2 R s_0 l_7 w) hmix (by kernel_rfl) h
theorem varint_TakeAll_5_ok (c1 : (Bs × Sl × Int × Unit) → (Int × Unit) → World → Prop) (R : (Sl × Bs × Int × Unit) → World → Prop) (s_0 : Bs) (l_7 : Sl) (v18 : Int) (v17 : Int) (w : World) (h : varint_TakeAll_5 c1 R s_0 l_7 v18 v17 w) : WPC P 37 [] (Code.at varint_TakeAll_B [.snd, .snd, .snd, .fst, .snd, .blk, .blk]) (thenQ (fun env => getE env varint_TakeAll_l5 fun (s : Bs × Sl × Int × Unit) => getE env varint_TakeAll_l6 (c1 s)) (blockQ 0 ((thenQ (fun env => getE env varint_TakeAll_l3 fun (x : Bs × Sl × Unit) => varint_TakeAll_2 R x.1 x.2.1) (topQ P [.tmp 4, .tmp 5, .tmp 6] (.tup [.sl, .s, I]) R)) .normal) (thenQ (fun env => getE env varint_TakeAll_l3 fun (x : Bs × Sl × Unit) => varint_TakeAll_2 R x.1 x.2.1) (topQ P [.tmp 4, .tmp 5, .tmp 6] (.tup [.sl, .s, I]) R)))) (mkE2 37 varint_TakeAll_l5 varint_TakeAll_l6 (s_0, l_7, v18, ()) (v17, ())) w :=
  pc_end (T := varint_TakeAll_5 c1 R s_0 l_7 v18 v17 w) hmix (by kernel_rfl) h
theorem varint_TakeAll_4_ok (R : (Sl × Bs × Int × Unit) → World → Prop) (s_0 : Bs) (l_7 : Sl) (v18 : Int) (v17 : Int) (w : World) (h : varint_TakeAll_4 R s_0 l_7 v18 v17 w) : WPC P 37 [] (Code.at varint_TakeAll_B [.snd, .snd, .snd, .fst, .snd]) (thenQ (fun env => getE env varint_TakeAll_l3 fun (x : Bs × Sl × Unit) => varint_TakeAll_2 R x.1 x.2.1) (topQ P [.tmp 4, .tmp 5, .tmp 6] (.tup [.sl, .s, I]) R)) (mkE2 37 varint_TakeAll_l5 varint_TakeAll_l6 (s_0, l_7, v18, ()) (v17, ())) w :=
  pc_loopE (l := varint_TakeAll_l5) (l' := varint_TakeAll_l6) (body := fun (c1 : (Bs × Sl × Int × Unit) → (Int × Unit) → World → Prop) (s : Bs × Sl × Int × Unit) => varint_TakeAll_5 c1 R s.1 s.2.1 s.2.2.1 v17) (id := 0) (b := (Code.at varint_TakeAll_B [.snd, .snd, .snd, .fst, .snd, .blk, .blk])) (by kernel_rfl) (fun c1 s w h => varint_TakeAll_5_ok c1 R s.1 s.2.1 s.2.2.1 v17 w h) h
theorem varint_TakeAll_3_ok (R : (Sl × Bs × Int × Unit) → World → Prop) (s_0 : Bs) (n_1 : Int) (l_7 : Sl) (w : World) (h : varint_TakeAll_3 R s_0 n_1 l_7 w) : WPC P 37 [] (Code.at varint_TakeAll_B [.snd, .snd, .snd, .fst]) (thenQ (fun env => getE env varint_TakeAll_l3 fun (x : Bs × Sl × Unit) => varint_TakeAll_2 R x.1 x.2.1) (topQ P [.tmp 4, .tmp 5, .tmp 6] (.tup [.sl, .s, I]) R)) (mkE 37 varint_TakeAll_l4 (s_0, n_1, l_7, ())) w :=
  pc_cut2 (T := varint_TakeAll_3 R s_0 n_1 l_7 w) (l := varint_TakeAll_l5) (l' := varint_TakeAll_l6) (F := fun (x : Bs × Sl × Int × Unit) (y : Int × Unit) => varint_TakeAll_4 R x.1 x.2.1 x.2.2.1 y.1) hmix 1 (mkE_len ..) (by kernel_rfl) (fun x y w h => varint_TakeAll_4_ok R x.1 x.2.1 x.2.2.1 y.1 w h) (by kernel_rfl) h
theorem varint_TakeAll_1_ok (R : (Sl × Bs × Int × Unit) → World → Prop) (s_0 : Bs) (n_1 : Int) (l_7 : Sl) (w : World) (h : varint_TakeAll_1 R s_0 n_1 l_7 w) : WPC P 37 [] (Code.at varint_TakeAll_B [.snd, .snd, .snd]) (topQ P [.tmp 4, .tmp 5, .tmp 6] (.tup [.sl, .s, I]) R) (mkE 37 varint_TakeAll_l2 (s_0, n_1, l_7, ())) w :=
  pc_seq (l := varint_TakeAll_l3) (F := fun (x : Bs × Sl × Unit) => varint_TakeAll_2 R x.1 x.2.1) (a := (Code.at varint_TakeAll_B [.snd, .snd, .snd, .fst])) (b := (Code.at varint_TakeAll_B [.snd, .snd, .snd, .snd])) (by kernel_rfl) (pc_cut (T := (varint_TakeAll_3 R s_0 n_1 l_7) w) (l := varint_TakeAll_l4) (F := fun (x : Bs × Int × Sl × Unit) => varint_TakeAll_3 R x.1 x.2.1 x.2.2.1) (c := (Code.at varint_TakeAll_B [.snd, .snd, .snd, .fst])) hmix 0 (mkE_len ..) (by kernel_rfl) (fun x w h => varint_TakeAll_3_ok R x.1 x.2.1 x.2.2.1 w h) (by kernel_rfl) h) (fun x w h => varint_TakeAll_2_ok R x.1 x.2.1 w h)
theorem varint_TakeAll_0_ok (R : (Sl × Bs × Int × Unit) → World → Prop) (s_0 : Bs) (n_1 : Int) (w : World) (h : varint_TakeAll_0 R s_0 n_1 w) : WPC P 37 [] (Code.at varint_TakeAll_B []) (topQ P [.tmp 4, .tmp 5, .tmp 6] (.tup [.sl, .s, I]) R) (mkE 37 varint_TakeAll_l1 (s_0, n_1, ())) w :=
  pc_cut (T := varint_TakeAll_0 R s_0 n_1 w) (l := varint_TakeAll_l2) (F := fun (x : Bs × Int × Sl × Unit) => varint_TakeAll_1 R x.1 x.2.1 x.2.2.1) hmix 3 (mkE_len ..) (by kernel_rfl) (fun x w h => varint_TakeAll_1_ok R x.1 x.2.1 x.2.2.1 w h) (by kernel_rfl) h
theorem varint_TakeAll_call (R : (Sl × Bs × Int × Unit) → World → Prop) (s_0 : Bs) (n_1 : Int) (w : World) (h : varint_TakeAll_0 R s_0 n_1 w) : mcall P n_varint_TakeAll [(.string ⟨s_0.toArray⟩), (.int .i64 n_1)] (.tup [.sl, .s, I]) R w :=
  pc_top (T := (varint_TakeAll_0 R s_0 n_1) w) (l := varint_TakeAll_l1) (F := fun (x : Bs × Int × Unit) => varint_TakeAll_0 R x.1 x.2.1) (n := 37) (c := varint_TakeAll_B) Tryz.func27 rfl (by kernel_rfl) (by kernel_rfl) (by kernel_rfl) (fun x w h => varint_TakeAll_0_ok R x.1 x.2.1 w h) (by kernel_rfl) h
/- headgate batch.TakeRecord -/
noncomputable abbrev batch_TakeRecord_B : Code := (Tryz.f28.body).getD .skip
abbrev batch_TakeRecord_l1 : Slots := [(0, .s)]
abbrev batch_TakeRecord_l2 : Slots := [(2, .ad), (6, .s), (7, I), (9, .ad)]
def batch_TakeRecord_1 (R : (T_api_Record × Bs × Int × Unit) → World → Prop) (v2 : Addr) (rest_6 : Bs) (e_7 : Int) (r_9 : Addr) : World → Prop :=
 mif (e_7 != 0)
 (sto P t_api_Record v2 k_api_Record (0, 0, [], ()) <|
 ld P t_api_Record v2 k_api_Record fun (x10 : T_api_Record) =>
 R (x10, [], 2, ()))
 (ld P t_api_Record r_9 k_api_Record fun (x11 : T_api_Record) =>
 mcall P n_batch_may [(KV k_api_Record x11)] .b fun (x12 : Bool) =>
 mif (!x12)
 (sto P t_api_Record v2 k_api_Record (0, 0, [], ()) <|
 ld P t_api_Record v2 k_api_Record fun (x13 : T_api_Record) =>
 R (x13, [], 2, ()))
 (ld P t_api_Record r_9 k_api_Record fun (x14 : T_api_Record) =>
 sto P t_api_Record v2 k_api_Record x14 <|
 ld P t_api_Record v2 k_api_Record fun (x15 : T_api_Record) =>
 R (x15, rest_6, 0, ())))
def batch_TakeRecord_0 (R : (T_api_Record × Bs × Int × Unit) → World → Prop) (s_0 : Bs) : World → Prop :=
 alo P t_api_Record fun a1 =>
 mcall P n_varint_TakeAll [(.string ⟨s_0.toArray⟩), (.int .i64 2)] (.tup [.sl, .s, I]) fun (x2 : Sl × Bs × Int × Unit) =>
 mif (x2.2.2.1 != 0)
 (sto P t_api_Record a1 k_api_Record (0, 0, [], ()) <|
 ld P t_api_Record a1 k_api_Record fun (x3 : T_api_Record) =>
 R (x3, [], x2.2.2.1, ()))
 (mcall P n_varint_TakeText [(.string ⟨x2.2.1.toArray⟩), (.int .i64 512)] (.tup [.s, .s, I]) fun (x4 : Bs × Bs × Int × Unit) =>
 alo P t_api_Record fun a5 =>
 sto P t_api_Record a5 k_api_Record (0, 0, [], ()) <|
 mif (x4.2.2.1 == 0)
 (mdraw <|
 ixa P t_sl_int (Sl.v x2.1) 0 fun (x6 : Addr) =>
 ld P t_int x6 I fun (x7 : Int) =>
 ixa P t_sl_int (Sl.v x2.1) 1 fun (x8 : Addr) =>
 ld P t_int x8 I fun (x9 : Int) =>
 sto P t_api_Record a5 k_api_Record (x7, x9, x4.1, ()) <|
 batch_TakeRecord_1 R a1 x4.2.1 x4.2.2.1 a5)
 (batch_TakeRecord_1 R a1 x4.2.1 x4.2.2.1 a5))
theorem batch_TakeRecord_1_ok (R : (T_api_Record × Bs × Int × Unit) → World → Prop) (v2 : Addr) (rest_6 : Bs) (e_7 : Int) (r_9 : Addr) (w : World) (h : batch_TakeRecord_1 R v2 rest_6 e_7 r_9 w) : WPC P 47 [] (Code.at batch_TakeRecord_B [.snd, .snd, .snd, .snd, .snd, .snd]) (topQ P [.cell 2 t_api_Record, .tmp 3, .tmp 4] (.tup [k_api_Record, .s, I]) R) (mkE 47 batch_TakeRecord_l2 (v2, rest_6, e_7, r_9, ())) w :=
  pc_end (T := batch_TakeRecord_1 R v2 rest_6 e_7 r_9 w) hmix (by kernel_rfl) h
theorem batch_TakeRecord_0_ok (R : (T_api_Record × Bs × Int × Unit) → World → Prop) (s_0 : Bs) (w : World) (h : batch_TakeRecord_0 R s_0 w) : WPC P 47 [] (Code.at batch_TakeRecord_B []) (topQ P [.cell 2 t_api_Record, .tmp 3, .tmp 4] (.tup [k_api_Record, .s, I]) R) (mkE 47 batch_TakeRecord_l1 (s_0, ())) w :=
  pc_cut (T := batch_TakeRecord_0 R s_0 w) (l := batch_TakeRecord_l2) (F := fun (x : Addr × Bs × Int × Addr × Unit) => batch_TakeRecord_1 R x.1 x.2.1 x.2.2.1 x.2.2.2.1) hmix 6 (mkE_len ..) (by kernel_rfl) (fun x w h => batch_TakeRecord_1_ok R x.1 x.2.1 x.2.2.1 x.2.2.2.1 w h) (by kernel_rfl) h
theorem batch_TakeRecord_call (R : (T_api_Record × Bs × Int × Unit) → World → Prop) (s_0 : Bs) (w : World) (h : batch_TakeRecord_0 R s_0 w) : mcall P n_batch_TakeRecord [(.string ⟨s_0.toArray⟩)] (.tup [k_api_Record, .s, I]) R w :=
  pc_top (T := (batch_TakeRecord_0 R s_0) w) (l := batch_TakeRecord_l1) (F := fun (x : Bs × Unit) => batch_TakeRecord_0 R x.1) (n := 47) (c := batch_TakeRecord_B) Tryz.func28 rfl (by kernel_rfl) (by kernel_rfl) (by kernel_rfl) (fun x w h => batch_TakeRecord_0_ok R x.1 w h) (by kernel_rfl) h
/- headgate disk.New -/
noncomputable abbrev disk_New_B : Code := (Tryz.f29.body).getD .skip
abbrev disk_New_l1 : Slots := [(0, I)]
def disk_New_0 (R : (Option Addr × Int × Unit) → World → Prop) (n_0 : Int) : World → Prop :=
 mif (decide (n_0 < 1))
 (R (none, 1, ()))
 (mif (decide (n_0 > 16384))
 (R (none, 1, ()))
 (mkm P t_map_string_ptr_disk_file fun (x1 : Nat) =>
 bx P t_disk_Disk k_disk_Disk ((some x1), n_0, (-1), false, ()) fun a2 =>
 R ((some a2), 0, ())))
theorem disk_New_0_ok (R : (Option Addr × Int × Unit) → World → Prop) (n_0 : Int) (w : World) (h : disk_New_0 R n_0 w) : WPC P 14 [] (Code.at disk_New_B []) (topQ P [.tmp 2, .tmp 3] (.tup [.p, I]) R) (mkE 14 disk_New_l1 (n_0, ())) w :=
  pc_end (T := disk_New_0 R n_0 w) hmix (by kernel_rfl) h
theorem disk_New_call (R : (Option Addr × Int × Unit) → World → Prop) (n_0 : Int) (w : World) (h : disk_New_0 R n_0 w) : mcall P n_disk_New [(.int .i64 n_0)] (.tup [.p, I]) R w :=
  pc_top (T := (disk_New_0 R n_0) w) (l := disk_New_l1) (F := fun (x : Int × Unit) => disk_New_0 R x.1) (n := 14) (c := disk_New_B) Tryz.func29 rfl (by kernel_rfl) (by kernel_rfl) (by kernel_rfl) (fun x w h => disk_New_0_ok R x.1 w h) (by kernel_rfl) h
end Go.Proofs.YtegjokkkdkaphaaGreatDoor
