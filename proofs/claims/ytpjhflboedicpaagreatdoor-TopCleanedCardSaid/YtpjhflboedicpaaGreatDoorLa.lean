/- Part of the proof's own library: sound rules for the short texts of functions, for every program. No condition. -/
import Derived.Calls
import Derived.Orders
import Derived.KernelRfl
import Derived.Tactics2
import Derived.CallsIn
import Derived.OrdersIn
import Derived.TacticsIn
set_option linter.unusedVariables false
set_option linter.unusedSimpArgs false
namespace Go.W
open Go
abbrev Env := List (Option Value)
structure Sl where
  a : Option Addr
  len : Nat
  cap : Nat
abbrev Sl.v (s : Sl) : Value := .slice s.a s.len s.cap
abbrev Bs := List UInt8
inductive Kd where
  | i (k : IntKind) | b | s | p | ad | sl | m | md | v | st (l : List Kd) | tup (l : List Kd)
mutual
@[reducible] def KT : Kd → Type
  | .i _ => Int | .b => Bool | .s => Bs | .p => Option Addr | .ad => Addr | .sl => Sl | .m => Option Nat | .md => Nat | .v => Value
  | .st l => KTs l | .tup l => KTs l
@[reducible] def KTs : List Kd → Type
  | [] => Unit
  | k :: ks => KT k × KTs ks
end
mutual
def KC : (k : Kd) → KT k → List Value
  | .i k, x => [.int k x] | .b, x => [.bool x] | .s, x => [.string ⟨x.toArray⟩] | .p, x => [.pointer x] | .ad, x => [.pointer (some x)]
  | .sl, x => [.slice x.a x.len x.cap] | .m, x => [.map x] | .md, x => [.map (some x)] | .v, x => [x]
  | .st l, x => KCs l x | .tup l, x => KCs l x
def KCs : (l : List Kd) → KTs l → List Value
  | [], _ => []
  | k :: ks, x => KC k x.1 ++ KCs ks x.2
end
mutual
def KV : (k : Kd) → KT k → Value
  | .i k, x => .int k x | .b, x => .bool x | .s, x => .string ⟨x.toArray⟩ | .p, x => .pointer x | .ad, x => .pointer (some x)
  | .sl, x => .slice x.a x.len x.cap | .m, x => .map x | .md, x => .map (some x) | .v, x => x
  | .st l, x => .agg (KCs l x).toArray
  | .tup l, x => .tuple (KVs l x).toArray
def KVs : (l : List Kd) → KTs l → List Value
  | [], _ => []
  | k :: ks, x => KV k x.1 :: KVs ks x.2
end
def unS : (k : Kd) → Value → Option (KT k)
  | .i k, .int k' x => match decide (k = k') with | true => some x | false => none
  | .b, .bool x => some x
  | .s, .string s => some s.data.toList
  | .p, .pointer x => some x
  | .ad, .pointer x => x
  | .sl, .slice a l c => some ⟨a, l, c⟩
  | .m, .map x => some x
  | .md, .map x => x
  | .v, x => some x
  | _, _ => none
def wr (k : Kd) (o : Option (KT k)) (r : List Value) : Option (KT k × List Value) := match o with | some x => some (x, r) | none => none
mutual
def unC : (k : Kd) → List Value → Option (KT k × List Value)
  | .st l, r => unCs l r
  | .tup _, _ => none
  | .i k, v :: r => wr (.i k) (unS (.i k) v) r
  | .b, v :: r => wr .b (unS .b v) r
  | .s, v :: r => wr .s (unS .s v) r
  | .p, v :: r => wr .p (unS .p v) r
  | .ad, v :: r => wr .ad (unS .ad v) r
  | .sl, v :: r => wr .sl (unS .sl v) r
  | .m, v :: r => wr .m (unS .m v) r
  | .md, v :: r => wr .md (unS .md v) r
  | .v, v :: r => some (v, r)
  | _, [] => none
def unCs : (l : List Kd) → List Value → Option (KTs l × List Value)
  | [], r => some ((), r)
  | k :: ks, r => match unC k r with
    | some (x, r) => match unCs ks r with
      | some (xs, r) => some ((x, xs), r)
      | none => none
    | none => none
end
mutual
def unV : (k : Kd) → Value → Option (KT k)
  | .st l, .agg cs => match unCs l cs.toList with | some (x, []) => some x | _ => none
  | .st _, _ => none
  | .tup l, .tuple vs => unVs l vs.toList
  | .tup _, _ => none
  | .i k, v => unS (.i k) v
  | .b, v => unS .b v
  | .s, v => unS .s v
  | .p, v => unS .p v
  | .ad, v => unS .ad v
  | .sl, v => unS .sl v
  | .m, v => unS .m v
  | .md, v => unS .md v
  | .v, v => some v
def unVs : (l : List Kd) → List Value → Option (KTs l)
  | [], [] => some ()
  | k :: ks, v :: vs => match unV k v with
    | some x => match unVs ks vs with | some xs => some (x, xs) | none => none
    | none => none
  | _, _ => none
end
theorem unS_spec : ∀ (k : Kd) (v : Value) (x : KT k), unS k v = some x → v = KV k x
  | .i k, v, x, h => by
    cases v <;> simp only [unS] at h <;> try (simp at h; done)
    rename_i k' y
    by_cases e : k = k'
    · subst e; simp at h; subst h; rfl
    · simp [e] at h
  | .b, v, x, h => by cases v <;> simp [unS] at h; subst h; rfl
  | .s, v, x, h => by cases v <;> simp [unS] at h; subst h; rfl
  | .p, v, x, h => by cases v <;> simp [unS] at h; subst h; rfl
  | .ad, v, x, h => by cases v <;> simp [unS] at h; subst h; rfl
  | .sl, v, x, h => by cases v <;> simp [unS] at h; subst h; rfl
  | .m, v, x, h => by cases v <;> simp [unS] at h; subst h; rfl
  | .md, v, x, h => by cases v <;> simp [unS] at h; subst h; rfl
  | .v, v, x, h => by simp [unS] at h; subst h; rfl
  | .st l, v, x, h => by cases v <;> simp [unS] at h
  | .tup l, v, x, h => by cases v <;> simp [unS] at h
theorem unC_one {k : Kd} {v : Value} {rest r : List Value} {x : KT k} (h : wr k (unS k v) rest = some (x, r)) : v = KV k x ∧ rest = r := by
  cases hx : unS k v with
  | none => simp [hx, wr] at h
  | some y => simp [hx, wr] at h; obtain ⟨rfl, rfl⟩ := h; exact ⟨unS_spec k v _ hx, rfl⟩
mutual
theorem unC_spec (k : Kd) (cs : List Value) (x : KT k) (r : List Value) (h : unC k cs = some (x, r)) : cs = KC k x ++ r := by
  match k, cs, x, r, h with
  | .st l, cs, x, r, h => rw [unC] at h; rw [KC]; exact unCs_spec l cs x r h
  | .tup _, _, _, _, h => simp [unC] at h
  | .i k, v :: r', x, r, h => rw [unC] at h; obtain ⟨rfl, rfl⟩ := unC_one (k := .i k) h; rfl
  | .b, v :: r', x, r, h => rw [unC] at h; obtain ⟨rfl, rfl⟩ := unC_one (k := .b) h; rfl
  | .s, v :: r', x, r, h => rw [unC] at h; obtain ⟨rfl, rfl⟩ := unC_one (k := .s) h; rfl
  | .p, v :: r', x, r, h => rw [unC] at h; obtain ⟨rfl, rfl⟩ := unC_one (k := .p) h; rfl
  | .ad, v :: r', x, r, h => rw [unC] at h; obtain ⟨rfl, rfl⟩ := unC_one (k := .ad) h; rfl
  | .sl, v :: r', x, r, h => rw [unC] at h; obtain ⟨rfl, rfl⟩ := unC_one (k := .sl) h; rfl
  | .m, v :: r', x, r, h => rw [unC] at h; obtain ⟨rfl, rfl⟩ := unC_one (k := .m) h; rfl
  | .md, v :: r', x, r, h => rw [unC] at h; obtain ⟨rfl, rfl⟩ := unC_one (k := .md) h; rfl
  | .v, v :: r', x, r, h => rw [unC] at h; simp at h; obtain ⟨rfl, rfl⟩ := h; rfl
  | .i _, [], _, _, h | .b, [], _, _, h | .s, [], _, _, h | .p, [], _, _, h | .ad, [], _, _, h | .sl, [], _, _, h | .m, [], _, _, h | .md, [], _, _, h | .v, [], _, _, h => simp [unC] at h
termination_by SizeOf.sizeOf k
theorem unCs_spec (l : List Kd) (cs : List Value) (x : KTs l) (r : List Value) (h : unCs l cs = some (x, r)) : cs = KCs l x ++ r := by
  match l, x, h with
  | [], x, h => simp [unCs] at h; simp [KCs, h]
  | k :: ks, x, h =>
    rw [unCs] at h
    cases h1 : unC k cs with
    | none => simp [h1] at h
    | some y =>
      obtain ⟨y, r1⟩ := y
      simp only [h1] at h
      cases h2 : unCs ks r1 with
      | none => simp [h2] at h
      | some z =>
        obtain ⟨z, r2⟩ := z
        simp only [h2, Option.some.injEq, Prod.mk.injEq] at h
        obtain ⟨rfl, rfl⟩ := h
        rw [unC_spec k cs y r1 h1, unCs_spec ks r1 z r2 h2, KCs, List.append_assoc]
termination_by SizeOf.sizeOf l
end
mutual
theorem unV_spec (k : Kd) (v : Value) (x : KT k) (h : unV k v = some x) : v = KV k x := by
  match k, v, x, h with
  | .i k, v, x, h => rw [unV] at h; exact unS_spec _ _ _ h
  | .b, v, x, h => rw [unV] at h; exact unS_spec _ _ _ h
  | .s, v, x, h => rw [unV] at h; exact unS_spec _ _ _ h
  | .p, v, x, h => rw [unV] at h; exact unS_spec _ _ _ h
  | .ad, v, x, h => rw [unV] at h; exact unS_spec _ _ _ h
  | .sl, v, x, h => rw [unV] at h; exact unS_spec _ _ _ h
  | .m, v, x, h => rw [unV] at h; exact unS_spec _ _ _ h
  | .md, v, x, h => rw [unV] at h; exact unS_spec _ _ _ h
  | .v, v, x, h => rw [unV] at h; cases h; rfl
  | .st l, v, x, h =>
    cases v <;> try (simp [unV] at h; done)
    rename_i cs
    rw [unV] at h
    cases h1 : unCs l cs.toList with
    | none => simp [h1] at h
    | some y =>
      obtain ⟨y, r⟩ := y
      cases r with
      | cons a r => simp [h1] at h
      | nil =>
        simp [h1] at h; subst h
        have := unCs_spec l cs.toList y [] h1
        simp only [List.append_nil] at this
        rw [KV, ← this]
  | .tup l, v, x, h =>
    cases v <;> try (simp [unV] at h; done)
    rename_i vs
    rw [unV] at h
    have := unVs_spec l vs.toList x h
    rw [KV, ← this]
termination_by SizeOf.sizeOf k
theorem unVs_spec (l : List Kd) (vs : List Value) (x : KTs l) (h : unVs l vs = some x) : vs = KVs l x := by
  match l, vs, x, h with
  | [], [], x, h => rfl
  | [], v :: vs, x, h => simp [unVs] at h
  | k :: ks, [], x, h => simp [unVs] at h
  | k :: ks, v :: vs, x, h =>
    rw [unVs] at h
    cases h1 : unV k v with
    | none => simp [h1] at h
    | some y =>
      simp only [h1] at h
      cases h2 : unVs ks vs with
      | none => simp [h2] at h
      | some z =>
        simp [h2] at h; subst h
        rw [unV_spec k v y h1, unVs_spec ks vs z h2, KVs]
termination_by SizeOf.sizeOf l
end
def kdOf (P : Program) : Nat → TypeId → Kd
  | 0, _ => .v
  | d + 1, t => match P.underlying t with
    | some (.int k) => .i k
    | some .bool => .b
    | some .string => .s
    | some (.pointer _) => .p
    | some (.slice _) => .sl
    | some (.map ..) => .m
    | some (.struct fs) => .st (fs.toList.map fun f => kdOf P d f.type)
    | some (.array n e) => .st (List.replicate n (kdOf P d e))
    | some (.tuple ts) => .tup (ts.toList.map (kdOf P d))
    | _ => .v
abbrev kd (P : Program) (t : TypeId) : Kd := kdOf P 9 t
def rdE (env : Env) : Operand → Option Value
  | .tmp t => env.getD t none
  | .const v => some v
  | .global g => some (.pointer (some ⟨g, 0, none⟩))
  | .func f => some (.func (.func f) #[] #[])
def ρ (env : Env) (x : Operand) : Value := (rdE env x).getD undef
def okE (env : Env) (o : Op) : Bool := o.operands.toList.all fun x => (rdE env x).isSome
def putE (env : Env) (d : Option Tmp) (v : Value) : Env := match d with | some d => env.set d (some v) | none => env
def mop (P : Program) (s : Sem Value) (kd : Kd) (k : KT kd → World → Prop) (w : World) : Prop := ∃ x w', s.run P w = .ok (KV kd x) w' ∧ k x w'
def mrd (P : Program) (s : Sem Value) (kd : Kd) (k : KT kd → World → Prop) (w : World) : Prop := ∃ x, s.run P w = .ok (KV kd x) w ∧ k x w
def mact (P : Program) (s : Sem Unit) (k : World → Prop) (w : World) : Prop := ∃ w', s.run P w = .ok () w' ∧ k w'
def mst (P : Program) (s : Sem Value) (v : Value) (k : World → Prop) (w : World) : Prop := s.run P w = .ok v w ∧ k w
def Enters (P : Program) (f : FuncId) : Prop := ∀ args w, (callFunc f args).run P w = .ok (.enter f args) w
inductive mcall (P : Program) (f : FuncId) (args : List Value) (kd : Kd) (k : KT kd → World → Prop) (w : World) : Prop where
  | enter (he : Enters P f) (hc : Calls P f args.toArray w fun e w' => ∃ x, e = .returned (KV kd x) ∧ k x w')
  | ext (x : KT kd) (w' : World) (hr : (callFunc f args.toArray).run P w = .ok (.value (KV kd x)) w') (hk : k x w')
def myield (P : Program) (l : Nat) (args : List Value) (kd : Kd) (k : KT kd → World → Prop) (w : World) : Prop :=
  ∃ f tmps assign body, (Instr.yield l args.toArray).run P w = .ok (.round l f tmps assign body) w ∧ RoundIn Fence.wide 0 P l f tmps assign body w fun e w' => ∃ x, e = .returned (KV kd x) ∧ k x w'
def mdyn (P : Program) (fv : Value) (args : List Value) (kd : Kd) (k : KT kd → World → Prop) (w : World) : Prop :=
  match fv with
  | .func (.func g) first caps => mcall P g (first.toList ++ args ++ caps.toList) kd k w
  | .func (.yield l) first _ => myield P l (first.toList ++ args) kd k w
  | _ => False
def mif (b : Bool) (x y : World → Prop) (w : World) : Prop := match b with | true => x w | false => y w
def mnil (p : Option Addr) (k : Addr → World → Prop) (w : World) : Prop := match p with | some a => k a w | none => False
def mdz (y : Int) (k : World → Prop) (w : World) : Prop := match y with | .ofNat 0 => False | _ => k w
def mng (y : Int) (k : World → Prop) (w : World) : Prop := match y with | .ofNat _ => k w | .negSucc _ => False
def mcat (a b : Bs) (k : Bs → World → Prop) (w : World) : Prop := ((a.length + b.length : Nat) : Int) ≤ IntKind.i64.max ∧ k (a ++ b) w
def mnxt (P : Program) (s : Sem Value) (over : World → Prop) (more : Value → Value → World → Prop) (w : World) : Prop :=
  ∃ v w', s.run P w = .ok v w' ∧ (v = .tuple #[.bool false] ∧ over w' ∨ ∃ x y, v = .tuple #[.bool true, x, y] ∧ more x y w')
def ment (P : Program) (s : Sem Value) (k : Value → Value → World → Prop) (w : World) : Prop := ∃ x y, s.run P w = .ok (.tuple #[x, y]) w ∧ k x y w
def mcast (v : Value) (kd : Kd) (k : KT kd → World → Prop) (w : World) : Prop := match unV kd v with | some x => k x w | none => False
def mall {α : Type} (k : α → World → Prop) : List α → World → Prop
  | [] => fun _ => True
  | [x] => k x
  | x :: xs => fun w => k x w ∧ mall k xs w
def amap {α β : Type} (f : α → β) (x : Array α) : Array β := (x.toList.map f).toArray
theorem amap_eq {α β : Type} (f : α → β) (x : Array α) : amap f x = x.map f := Array.toList_inj.1 (by simp [amap])
def placeOf (P : Program) (e : TypeId) (i : Nat) : Option (Nat × Nat) :=
  match P.underlying e with
  | some (.struct fs) => match fs.toList[i]? with | some f => some (f.offset, P.cellsOf f.type) | none => none
  | some (.array _ el) => some (i * P.cellsOf el, P.cellsOf el)
  | _ => none
def bldC (P : Program) (e : TypeId) (cells : List Value) : List (Nat × Value) → Option (List Value)
  | [] => some cells
  | (i, v) :: rest => match placeOf P e i with
    | none => none
    | some (off, size) =>
      match Nat.beq v.cells.toList.length size && Nat.ble (off + v.cells.toList.length) cells.length with
      | true => bldC P e (cells.take off ++ (v.cells.toList ++ cells.drop (off + v.cells.toList.length))) rest
      | false => none
def typesOk (P : Program) (e : TypeId) : Bool :=
  match P.underlying e with
  | some (.struct fs) => fs.toList.all fun f => (P.info? f.type).isSome
  | some (.array _ el) => (P.info? el).isSome
  | _ => false
def bld (P : Program) (e : TypeId) (ps : List (Nat × Value)) : Option (List Value) :=
  match typesOk P e, (P.info? e).bind (·.zero) with
  | true, some z => bldC P e z.cells.toList ps
  | _, _ => none
inductive Cls where
  | pure (v : Value)
  | nil (p : Option Addr)
  | div (y : Int) (v : Value)
  | shf (y : Int) (v : Value)
  | cat (a b : Bs)
  | read (s : Sem Value) (kd : Kd)
  | op (s : Sem Value) (kd : Kd)
  | act (s : Sem Unit)
  | dyn (f : Value) (args : List Value) (kd : Kd)
  | nxt (s : Sem Value)
  | ent (s : Sem Value)
  | cast (v : Value) (kd : Kd)
  | bad
def bopI (op : BinOp) (k : IntKind) (a b : Int) : Cls :=
  match op with
  | .add => .pure (.int k (k.wrap (a + b))) | .sub => .pure (.int k (k.wrap (a - b))) | .mul => .pure (.int k (k.wrap (a * b)))
  | .quo => .div b (.int k (k.wrap (a.tdiv b))) | .rem => .div b (.int k (a.tmod b))
  | .and => .pure (.int k (k.wrap (BitVec.ofInt k.bits a &&& BitVec.ofInt k.bits b).toNat))
  | .or => .pure (.int k (k.wrap (BitVec.ofInt k.bits a ||| BitVec.ofInt k.bits b).toNat))
  | .xor => .pure (.int k (k.wrap (BitVec.ofInt k.bits a ^^^ BitVec.ofInt k.bits b).toNat))
  | .andNot => .pure (.int k (k.wrap (BitVec.ofInt k.bits a &&& ~~~ BitVec.ofInt k.bits b).toNat))
  | .eql => .pure (.bool (a == b)) | .neq => .pure (.bool (a != b))
  | .lss => .pure (.bool (decide (a < b))) | .leq => .pure (.bool (decide (a ≤ b))) | .gtr => .pure (.bool (decide (a > b))) | .geq => .pure (.bool (decide (a ≥ b)))
  | _ => .bad
def bopS (op : BinOp) (a b : Bs) : Cls :=
  match op with
  | .add => .cat a b
  | .eql => .pure (.bool (a == b)) | .neq => .pure (.bool (!(a == b)))
  | .lss => .pure (.bool (Op.bytesLess a b))
  | _ => .bad
def bop (P : Program) (op : BinOp) (t : TypeId) (x y : Value) (kdr : Kd) : Cls :=
  match x, y with
  | .int k a, .int k' b => match op with
    | .shl => .shf b (.int k (k.wrap (a * 2 ^ (min b.toNat k.bits))))
    | .shr => .shf b (.int k (a.fdiv (2 ^ (min b.toNat k.bits))))
    | _ => match decide (k = k') with | true => bopI op k a b | false => .bad
  | .string a, .string b => bopS op a.data.toList b.data.toList
  | .agg _, .agg _ => match P.eqGuardType P.depth t with | true => .bad | false => .read (binOp op t x y) kdr
  | .nilIface, _ => .bad
  | _, _ => .read (binOp op t x y) kdr
def sizeOk (P : Program) (t : TypeId) : Bool := match P.cellsOf t with | 0 => false | _ => true
def cls (P : Program) (op : Op) (t : TypeId) (r : Operand → Value) : Cls :=
  match op with
  | .move x | .assign x => .pure (r x)
  | .pick c a b => match r c with
    | .bool true => .pure (r a)
    | .bool false => .pure (r b)
    | _ => .bad
  | .alloc e => .op (Instr.alloc e true (.tuple #[])) .ad
  | .box e x => .op (Instr.box e (r x)) .ad
  | .build e ps => match bld P e (ps.toList.map fun q => (q.1, r q.2)) with | some cs => .pure (.agg cs.toArray) | none => .bad
  | .buildSlice e n ps => .op (Instr.buildSlice e n (amap (fun q => (q.1, r q.2)) ps)) .sl
  | .load e a => .read (Instr.loadAt e (r a)) (kd P e)
  | .store e a v => .act (Instr.storeAt e (r a) (r v))
  | .nilCheck x => match r x with
    | .pointer p => .nil p
    | _ => .bad
  | .binOp op e x y _ => bop P op e (r x) (r y) (kd P t)
  | .unOp op _ x => match op, r x with
    | .neg, .int k n => .pure (.int k (k.wrap (0 - n)))
    | .not, .bool b => .pure (.bool (!b))
    | .xor, .int k n => .pure (.int k (k.wrap (BitVec.ofInt k.bits (if k.signed then -1 else k.max) ^^^ BitVec.ofInt k.bits n).toNat))
    | _, _ => .bad
  | .convert a b x => match P.underlying a, P.underlying b, r x with
    | some (.int _), some (.int k), .int _ n => .pure (.int k (k.wrap n))
    | some .string, some (.slice _), .string _ => .op (convert a b (r x)) .sl
    | _, _, _ => .read (convert a b (r x)) (kd P b)
  | .sliceToArrayPointer e x => .read (Instr.arrayAt e (r x)) .p
  | .makeFunc fn f c => .pure (.func fn (amap r f) (amap r c))
  | .makeMap e s => .op (Instr.makeMap e (s.map r)) .md
  | .makeSlice e l c => .op (Instr.makeSlice e (r l) (r c)) .sl
  | .slice e x lo hi mx => .read (Instr.sliceAt e (r x) (lo.map r) (hi.map r) (mx.map r)) (kd P t)
  | .fieldAddr s x f => match P.underlying s with
    | some (.struct fs) => match fs[f]? with
      | some fd => match sizeOk P fd.type, r x with
        | true, .pointer (some a) => .pure (.pointer (some (a.add fd.offset)))
        | _, _ => .bad
      | none => .bad
    | _ => .bad
  | .field e x f => .read (Instr.field e (r x) f) (kd P t)
  | .indexAddr e x i => .read (Instr.indexAt e (r x) (r i)) .ad
  | .index e x i => .read (Instr.index e (r x) (r i)) (kd P t)
  | .lookup e m i ok => .read (Instr.lookup e (r m) (r i) ok) (kd P t)
  | .mapUpdate e m k v => .act (Instr.mapUpdate e (r m) (r k) (r v))
  | .mapEntry e m k => .op (Instr.mapEntry e (r m) (r k)) (kd P t)
  | .entryStore e m s v => .act (Instr.entryStore e (r m) (r s) (r v))
  | .range e x => .op (Instr.range e (r x)) .v
  | .next i s => .nxt (Instr.next (r i) s t)
  | .entry i => .ent (Instr.entry (r i))
  | .extract x i => match r x with
    | .tuple vs => match vs[i]? with | some v => .cast v (kd P t) | none => .bad
    | _ => .bad
  | .call c => match c.callee with
    | .value f => .dyn (r f) (c.args.toList.map r) (kd P t)
    | .builtin .len => match (c.argTypes[0]?).bind P.underlying, (c.args[0]?).map r with
      | some .string, some (.string s) => .pure (.int .i64 s.data.toList.length)
      | some (.slice _), some (.slice _ n _) => .pure (.int .i64 n)
      | _, _ => .read (Builtin.len_ c.argTypes t (amap r c.args)) (kd P t)
    | .builtin .cap => match (c.argTypes[0]?).bind P.underlying, (c.args[0]?).map r with
      | some (.slice _), some (.slice _ _ n) => .pure (.int .i64 n)
      | _, _ => .bad
    | .builtin .min => match c.args.toList.map r with
      | [.int k x, .int _ y] => .pure (.int k (if y < x then y else x))
      | [.int k x, .int _ y, .int _ z] => .pure (.int k (if z < (if y < x then y else x) then z else (if y < x then y else x)))
      | _ => .bad
    | .builtin .max => match c.args.toList.map r with
      | [.int k x, .int _ y] => .pure (.int k (if y > x then y else x))
      | _ => .bad
    | .builtin .append => .op (Builtin.append_ c.argTypes t (amap r c.args)) .sl
    | .builtin .copy => .op (Builtin.copy_ c.argTypes t (amap r c.args)) (kd P t)
    | .builtin .delete => .op (Builtin.delete_ c.argTypes t (amap r c.args)) .v
    | .builtin .clear => .op (Builtin.clear_ c.argTypes t (amap r c.args)) .v
    | .builtin .real => .read (Builtin.real_ c.argTypes t (amap r c.args)) .v
    | .builtin .imag => .read (Builtin.imag_ c.argTypes t (amap r c.args)) .v
    | .builtin .unsafeSliceData => .op (Builtin.unsafeSliceData_ c.argTypes t (amap r c.args)) .p
    | .builtin .unsafeString => .op (Builtin.unsafeString_ c.argTypes t (amap r c.args)) .s
    | _ => .bad
  | _ => .bad
def Cls.wp (P : Program) (c : Cls) (k : Value → World → Prop) : World → Prop :=
  match c with
  | .pure v => k v
  | .nil p => mnil p fun a => k (.pointer (some a))
  | .div y v => mdz y (k v)
  | .shf y v => mng y (k v)
  | .cat a b => mcat a b fun l => k (.string ⟨l.toArray⟩)
  | .read s kd => mrd P s kd fun x => k (KV kd x)
  | .op s kd => mop P s kd fun x => k (KV kd x)
  | .act s => mact P s (k undef)
  | .dyn f args kd => mdyn P f args kd fun x => k (KV kd x)
  | .nxt s => mnxt P s (k (.tuple #[.bool false])) fun x y => k (.tuple #[.bool true, x, y])
  | .ent s => ment P s fun x y => k (.tuple #[x, y])
  | .cast v kd => mcast v kd fun x => k (KV kd x)
  | .bad => fun _ => False
def stepW (P : Program) (o : Oper) (env : Env) (K : Env → World → Prop) : World → Prop :=
  match okE env o.op with
  | true => (cls P o.op o.type (ρ env)).wp P fun v => K (putE env o.dst v)
  | false => fun _ => False
end Go.W
namespace Go.W
open Go
section
variable {P : Program} {Q : Exit → Act → World → Prop}
theorem run_underlying {t : TypeId} {d : TypeDesc} (h : P.underlying t = some d) (w : World) : (underlying t).run P w = .ok d w := by
  simp [underlying, program, h, Sem.run]
theorem bytes_size (bs : ByteArray) : bs.size = bs.data.toList.length := by rw [Array.length_toList]; rfl
theorem bytes_toList_loop (bs : ByteArray) (i : Nat) (r : List UInt8) : ByteArray.toList.loop bs i r = r.reverse ++ (bs.data.toList.drop i) := by
  unfold ByteArray.toList.loop
  have hs := bytes_size bs
  split
  · rename_i h
    have h' : i < bs.data.toList.length := by omega
    rw [bytes_toList_loop bs (i + 1) (bs.get! i :: r), List.drop_eq_getElem_cons h']
    have : bs.get! i = bs.data.toList[i] := by
      have h3 : i < bs.data.size := by simpa using h'
      cases bs with | mk d => simp only [ByteArray.get!]; rw [getElem!_pos d i h3]; simp
    simp [this]
  · rename_i h
    have h' : bs.data.toList.length ≤ i := by omega
    simp [List.drop_eq_nil_of_le h']
termination_by bs.size - i
theorem bytes_toList (bs : ByteArray) : bs.toList = bs.data.toList := by
  unfold ByteArray.toList; rw [bytes_toList_loop]; simp
theorem bytes_app (a b : ByteArray) : a ++ b = ⟨(a.data.toList ++ b.data.toList).toArray⟩ := by
  cases a with | mk x => cases b with | mk y => apply ByteArray.ext; simp
def Cls.ran (P : Program) (c : Cls) (s : Sem Next) : Prop :=
  match c with
  | .pure v => ∀ w, s.run P w = .ok (.value v) w
  | .nil p => ∀ a, p = some a → ∀ w, s.run P w = .ok (.value (.pointer (some a))) w
  | .div y v => y ≠ 0 → ∀ w, s.run P w = .ok (.value v) w
  | .shf y v => 0 ≤ y → ∀ w, s.run P w = .ok (.value v) w
  | .cat a b => ((a.length + b.length : Nat) : Int) ≤ IntKind.i64.max → ∀ w, s.run P w = .ok (.value (.string ⟨(a ++ b).toArray⟩)) w
  | .read x _ | .op x _ => ∀ w v w', x.run P w = .ok v w' → s.run P w = .ok (.value v) w'
  | .nxt x | .ent x => ∀ w v w', x.run P w = .ok v w' → s.run P w = .ok (.value v) w'
  | .cast v _ => ∀ w, s.run P w = .ok (.value v) w
  | .act x => ∀ w w', x.run P w = .ok () w' → s.run P w = .ok .skip w'
  | .dyn f args _ => (∀ g first caps, f = .func (.func g) first caps → ∀ w, s.run P w = (callFunc g (first.toList ++ args ++ caps.toList).toArray).run P w) ∧
    ∀ l first caps, f = .func (.yield l) first caps → ∀ w, s.run P w = (Instr.yield l (first.toList ++ args).toArray).run P w
  | .bad => True
theorem ran_val {x : Sem Value} {w w' : World} {v : Value} (h : x.run P w = .ok v w') : (do pure (Next.value (← x)) : Sem Next).run P w = .ok (.value v) w' := by simp [h]
theorem ran_unit {x : Sem Unit} {w w' : World} (h : x.run P w = .ok () w') : (do x; pure Next.skip : Sem Next).run P w = .ok .skip w' := by simp [h]
theorem bopI_ran {op : BinOp} {k : IntKind} {a b : Int} {t : TypeId} (h1 : op ≠ .shl) (h2 : op ≠ .shr) (x y : Operand) :
    (bopI op k a b).ran P (do pure (.value (← (do eqGuard op t x y (.int k a) (.int k b); binOp op t (.int k a) (.int k b))))) := by
  cases op <;> simp_all [bopI, Cls.ran, eqGuard, binOp, Op.intArith, Op.intDiv, Op.intBits, Op.intCmp] <;> (try (intro h; simp [h]))
theorem bopS_ran {op : BinOp} {a b : ByteArray} {t : TypeId} (x y : Operand) :
    (bopS op a.data.toList b.data.toList).ran P (do pure (.value (← (do eqGuard op t x y (.string a) (.string b); binOp op t (.string a) (.string b))))) := by
  have e1 := bytes_size a
  have e2 := bytes_size b
  cases op
  case add =>
    simp only [bopS, Cls.ran]
    intro h w
    have : ¬ (((a.size + b.size : Nat) : Int) > IntKind.i64.max) := by rw [e1, e2]; omega
    have hm : IntKind.i64.max = 9223372036854775807 := by decide
    rw [hm] at this
    have h2 : ((a.size : Int) + (b.size : Int)) ≤ 9223372036854775807 := by omega
    simp [eqGuard, binOp, Op.stringOp, h2, bytes_app]
  all_goals simp [bopS, Cls.ran, eqGuard, binOp, Op.stringOp, bytes_toList]
theorem bop_ran {op : BinOp} {t : TypeId} {u v : Value} {kdr : Kd} (x y : Operand) :
    (bop P op t u v kdr).ran P (do pure (.value (← (do eqGuard op t x y u v; binOp op t u v)))) := by
  unfold bop
  split
  · rename_i k a k' b
    cases op
    case shl => intro h w; have : ¬ b < 0 := by omega
                simp [eqGuard, binOp, Op.shift, this]
    case shr => intro h w; have : ¬ b < 0 := by omega
                simp [eqGuard, binOp, Op.shift, this]
    all_goals
      by_cases h : k = k'
      · subst h; simp only [decide_true]; exact bopI_ran (by simp) (by simp) x y
      · simp [h, Cls.ran]
  · exact bopS_ran x y
  · rename_i cs ds
    split
    · trivial
    · rename_i h
      intro w v w' hr
      have hg : (eqGuard op t x y (.agg cs) (.agg ds)).run P w = .ok () w := by
        unfold eqGuard
        cases op <;> simp [program, Sem.run, h]
      simp [hg, hr]
  · trivial
  · rename_i h1 h2 h3 h4
    intro w r w' hr
    have hg : (eqGuard op t x y u v).run P w = .ok () w := by
      unfold eqGuard
      cases op <;> simp
      all_goals
        cases u <;> cases v <;> simp_all
    simp [hg, hr]
theorem fill_fold (vs : List Value) : ∀ (off : Nat) (cells : Array Value) (k : Nat), off + k + vs.length ≤ cells.size →
    ((vs.zipIdx k).foldl (fun cs (x : Value × Nat) => cs.setIfInBounds (off + x.2) x.1) cells).toList = cells.toList.take (off + k) ++ (vs ++ cells.toList.drop (off + k + vs.length)) := by
  induction vs with
  | nil => intro off cells k h; simp
  | cons v vs ih =>
    intro off cells k h
    simp only [List.length_cons] at h
    rw [List.zipIdx_cons, List.foldl_cons, ih off _ (k + 1) (by simp; omega)]
    have hlt : off + k < cells.toList.length := by simp; omega
    rw [Array.toList_setIfInBounds]
    have e1 : (cells.toList.set (off + k) v).take (off + (k + 1)) = cells.toList.take (off + k) ++ [v] := by
      rw [show off + (k + 1) = (off + k) + 1 by omega, List.take_succ_eq_append_getElem (by simpa using hlt), List.take_set_of_le (Nat.le_refl _)]; simp
    have e2 : (cells.toList.set (off + k) v).drop (off + (k + 1) + vs.length) = cells.toList.drop (off + k + (v :: vs).length) := by
      rw [List.drop_set_of_lt (by omega)]; congr 1; simp; omega
    rw [e1, e2]; simp
theorem fill_of {place : Nat → Option (Nat × Nat)} {e : TypeId} (hp : ∀ i q, placeOf P e i = some q → place i = some q) :
    ∀ (ps : List (Nat × Value)) (cells cs : List Value), bldC P e cells ps = some cs → Instr.fill place cells.toArray ps = some cs.toArray
  | [], cells, cs, h => by simp [bldC] at h; subst h; simp [Instr.fill]
  | (i, v) :: rest, cells, cs, h => by
    unfold bldC at h
    cases hq : placeOf P e i with
    | none => simp [hq] at h
    | some q =>
      obtain ⟨off, size⟩ := q
      simp only [hq] at h
      cases hb : (Nat.beq v.cells.toList.length size && Nat.ble (off + v.cells.toList.length) cells.length) with
      | false => simp only [hb] at h; cases h
      | true =>
        simp only [hb] at h
        rw [Bool.and_eq_true, Nat.beq_eq, Nat.ble_eq] at hb
        obtain ⟨h1, h2⟩ := hb
        have ih := fill_of hp rest _ cs h
        unfold Instr.fill
        simp only [hp i _ hq]
        have e1 : v.cells.size = size := by simpa using h1
        have e2 : off + v.cells.size ≤ cells.length := by simpa using h2
        rw [if_neg (by simp [e1]; omega), ← ih]
        congr 1
        apply Array.toList_inj.1
        have := fill_fold v.cells.toList off cells.toArray 0 (by simpa using h2)
        simp only [Nat.add_zero] at this
        rw [← this, ← Array.foldl_toList, Array.toList_zipIdx]
theorem run_mapM_list {α β : Type} {f : α → Sem β} {g : α → β} {w : World} : ∀ (l : List α), (∀ x ∈ l, (f x).run P w = .ok (g x) w) → (l.mapM f).run P w = .ok (l.map g) w
  | [], _ => by simp
  | x :: l, h => by
    have ih := run_mapM_list l (fun y hy => h y (List.mem_cons_of_mem _ hy))
    rw [List.mapM_cons]; simp [h x (List.mem_cons_self ..), ih]
theorem run_sizeOf {t : TypeId} (h : (P.info? t).isSome = true) (w : World) : (sizeOf t).run P w = .ok (P.cellsOf t) w := by
  cases hi : P.info? t with
  | none => simp [hi] at h
  | some i => simp [sizeOf, typeInfo, program, Sem.run, hi, Program.cellsOf]
theorem build_run {e : TypeId} {ps : Array (Nat × Value)} {cs : List Value} (h : bld P e ps.toList = some cs) (w : World) : (Instr.build e ps).run P w = .ok (.agg cs.toArray) w := by
  unfold bld at h
  cases ht : typesOk P e with
  | false => simp [ht] at h
  | true =>
    cases hz : (P.info? e).bind (·.zero) with
    | none => simp [ht, hz] at h
    | some z =>
      simp only [ht, hz] at h
      have hzv : (zeroValue e).run P w = .ok z w := by
        cases hi : P.info? e with
        | none => simp [hi] at hz
        | some i => simp [hi] at hz; simp [zeroValue, typeInfo, program, Sem.run, hi, hz]
      unfold typesOk at ht
      cases hu : P.underlying e with
      | none => simp [hu] at ht
      | some d =>
        cases d <;> simp only [hu] at ht <;> try (cases ht; done)
        case struct fs =>
          have hmap : (fs.mapM (fun (f : Field) => (do pure (f.offset, ← sizeOf f.type) : Sem (Nat × Nat)))).run P w = .ok (fs.map fun (f : Field) => (f.offset, P.cellsOf f.type)) w := by
            rw [Array.mapM_eq_mapM_toList, Sem.run_map, run_mapM_list (g := fun (f : Field) => (f.offset, P.cellsOf f.type))]
            · simp only [Result.andThen_ok]; rw [← amap_eq]; rfl
            · intro x hx
              have := List.all_eq_true.1 ht x hx
              simp [run_sizeOf this]
          have hf := fill_of (P := P) (e := e) (place := fun i => (fs.map fun f => (f.offset, P.cellsOf f.type))[i]?) (fun i q hq => by
            unfold placeOf at hq
            simp only [hu, Array.getElem?_toList] at hq
            cases hfi : fs[i]? with
            | none => simp [hfi] at hq
            | some f => simp [hfi] at hq; simp [hfi, hq]) ps.toList z.cells.toList cs h
          simp only [Array.toArray_toList] at hf
          unfold Instr.build
          simp only [Sem.run_bind, hzv, Result.andThen_ok, run_underlying hu, hmap, hf, Sem.run_pure]
        case array n el =>
          have hf := fill_of (P := P) (e := e) (place := fun i => some (i * P.cellsOf el, P.cellsOf el)) (fun i q hq => by
            unfold placeOf at hq
            simpa only [hu] using hq) ps.toList z.cells.toList cs h
          simp only [Array.toArray_toList] at hf
          unfold Instr.build
          simp only [Sem.run_bind, hzv, Result.andThen_ok, run_underlying hu, run_sizeOf ht, hf, Sem.run_pure]
theorem cls_ran (o : Oper) (r : Operand → Value) : (cls P o.op o.type r).ran P (execOp r o) := by
  obtain ⟨dst, op, ty, pos, after, guard⟩ := o
  cases op with
  | move x => intro w; simp [execOp]
  | assign x => intro w; simp [execOp]
  | pick c a b =>
    simp only [cls]
    split
    · rename_i h; intro w; simp [execOp, h, asBool]
    · rename_i h; intro w; simp [execOp, h, asBool]
    · trivial
  | alloc e => intro w v w' h; exact ran_val h
  | box e x => intro w v w' h; exact ran_val h
  | build e ps =>
    simp only [cls]
    split
    · rename_i cs h
      intro w
      refine ran_val (build_run (ps := ps.map fun q => (q.1, r q.2)) (by simpa using h) w)
    · trivial
  | buildSlice e n ps => intro w v w' h; rw [amap_eq] at h; exact ran_val h
  | load e a => intro w v w' h; exact ran_val h
  | store e a v => intro w w' h; exact ran_unit h
  | nilCheck x =>
    simp only [cls]
    split
    · rename_i p h; intro a ha w; subst ha; simp [execOp, h]
    · trivial
  | binOp op e x y yt => exact bop_ran x y
  | unOp op e x =>
    simp only [cls]
    split
    · rename_i h; intro w; simp [execOp, h, Op.unary, Op.intArith]
    · rename_i h; intro w; simp [execOp, h, Op.unary]
    · rename_i h; intro w; simp [execOp, h, Op.unary, Op.intBits]
    · trivial
  | convert a b x =>
    simp only [cls]
    split
    · rename_i h1 h2 h3; intro w; simp [execOp, h3, convert, run_underlying h1, run_underlying h2, Conv.intToInt]
    · intro w v w' h; exact ran_val h
    · intro w v w' h; exact ran_val h
  | sliceToArrayPointer e x => intro w v w' h; exact ran_val h
  | makeFunc fn f c => intro w; simp [execOp, Instr.makeFunc, amap_eq]
  | makeMap e s => intro w v w' h; exact ran_val h
  | makeSlice e l c => intro w v w' h; exact ran_val h
  | slice e x lo hi mx => intro w v w' h; exact ran_val h
  | fieldAddr s x f =>
    simp only [cls]
    split
    · rename_i fs hs
      split
      · rename_i fd hf
        split
        · rename_i a hz ha
          intro w
          have hsz : ∃ i, P.info? fd.type = some i ∧ i.size ≠ 0 := by
            unfold sizeOk Program.cellsOf at hz
            cases hi : P.info? fd.type with
            | none => simp [hi] at hz
            | some i => refine ⟨i, rfl, fun h0 => ?_⟩; simp [hi, h0] at hz
          obtain ⟨i, hi, hn⟩ := hsz
          simp [execOp, Instr.fieldAt, run_underlying hs, hf, ha, Instr.sureAddr, fieldPlace, sizeOf, typeInfo, program, Sem.run, hi, hn]
        · trivial
      · trivial
    · trivial
  | field e x f => intro w v w' h; exact ran_val h
  | indexAddr e x i => intro w v w' h; exact ran_val h
  | index e x i => intro w v w' h; exact ran_val h
  | lookup e m i ok => intro w v w' h; exact ran_val h
  | mapUpdate e m k v => intro w w' h; exact ran_unit h
  | mapEntry e m k => intro w v w' h; exact ran_val h
  | entryStore e m s v => intro w w' h; exact ran_unit h
  | range e x => intro w v w' h; exact ran_val h
  | next i s => intro w v w' h; exact ran_val h
  | entry i => intro w v w' h; exact ran_val h
  | extract x i =>
    simp only [cls]
    split
    · rename_i vs h
      split
      · rename_i v hv; intro w; simp [execOp, h, Instr.extract, hv]
      · trivial
    · trivial
  | call c =>
    obtain ⟨callee, args, ats⟩ := c
    cases callee with
    | value f =>
      constructor
      · intro g first caps hf w
        simp only [execOp, resolve, hf, Deferred.ofValue, invoke, Sem.run_bind, Sem.run_pure, Result.andThen_ok]
        have hargs : first ++ args.map r ++ caps = (first.toList ++ args.toList.map r ++ caps.toList).toArray := by
          apply Array.toList_inj.1; simp
        rw [← hargs]
      · intro g first caps hf w
        simp only [execOp, resolve, hf, Deferred.ofValue, invoke, Sem.run_bind, Sem.run_pure, Result.andThen_ok]
        have hargs : first ++ args.map r = (first.toList ++ args.toList.map r).toArray := by
          apply Array.toList_inj.1; simp
        rw [← hargs]
    | invoke x m => trivial
    | builtin b =>
      cases b
      case len =>
        simp only [cls]
        split
        · rename_i s hs hx
          intro w
          cases ha : ats[0]? with
          | none => simp [ha] at hs
          | some t =>
            simp only [ha, Option.bind_some] at hs
            have hx' : (args.map r)[0]? = some (.string s) := by simpa using hx
            simp [execOp, resolve, invoke, builtin, Builtin.len_, ha, hx', run_underlying hs, goInt]
        · rename_i e a n c hs hx
          intro w
          cases ha : ats[0]? with
          | none => simp [ha] at hs
          | some t =>
            simp only [ha, Option.bind_some] at hs
            have hx' : (args.map r)[0]? = some (.slice a n c) := by simpa using hx
            simp [execOp, resolve, invoke, builtin, Builtin.len_, ha, hx', run_underlying hs, goInt]
        · intro w v w' h; rw [amap_eq] at h; simp [execOp, resolve, invoke, builtin, h]
      case cap =>
        simp only [cls]
        split
        · rename_i e a n c hs hx
          intro w
          cases ha : ats[0]? with
          | none => simp [ha] at hs
          | some t =>
            simp only [ha, Option.bind_some] at hs
            have hx' : (args.map r)[0]? = some (.slice a n c) := by simpa using hx
            simp [execOp, resolve, invoke, builtin, Builtin.cap_, ha, hx', run_underlying hs, goInt]
        · trivial
      case min =>
        simp only [cls]
        split
        · rename_i k x k' y h
          intro w; simp [execOp, resolve, invoke, builtin, Builtin.min_, h, Builtin.min2]
        · rename_i k x k' y k'' z h
          intro w; simp [execOp, resolve, invoke, builtin, Builtin.min_, h, Builtin.min2]
        · trivial
      case max =>
        simp only [cls]
        split
        · rename_i k x k' y h
          intro w; simp [execOp, resolve, invoke, builtin, Builtin.max_, h, Builtin.max2]
        · trivial
      case append => intro w v w' h; rw [amap_eq] at h; simp [execOp, resolve, invoke, builtin, h]
      case copy => intro w v w' h; rw [amap_eq] at h; simp [execOp, resolve, invoke, builtin, h]
      case delete => intro w v w' h; rw [amap_eq] at h; simp [execOp, resolve, invoke, builtin, h]
      case clear => intro w v w' h; rw [amap_eq] at h; simp [execOp, resolve, invoke, builtin, h]
      case real => intro w v w' h; rw [amap_eq] at h; simp [execOp, resolve, invoke, builtin, h]
      case imag => intro w v w' h; rw [amap_eq] at h; simp [execOp, resolve, invoke, builtin, h]
      case unsafeSliceData => intro w v w' h; rw [amap_eq] at h; simp [execOp, resolve, invoke, builtin, h]
      case unsafeString => intro w v w' h; rw [amap_eq] at h; simp [execOp, resolve, invoke, builtin, h]
      all_goals trivial
  | _ => trivial
abbrev Fw (ro : Option Nat) : Fence := { Fence.wide with round := ro }
theorem Cls.ran_wp {ro : Option Nat} {c : Cls} {s : Sem Next} {o : Oper} {a : Act} {next : Act → World → Prop} {k : Value → World → Prop} {w : World}
    (hr : c.ran P s) (h : c.wp P k w) (hk : ∀ v w, k v w → next (a.put o.dst v) w) : o.uponIn (Fw ro) 0 P a next Q (s.run P w) := by
  cases c with
  | pure v => rw [hr w]; exact hk _ _ h
  | nil p =>
    cases p with
    | none => exact h.elim
    | some x => rw [hr x rfl w]; exact hk _ _ h
  | div y v =>
    have hy : y ≠ 0 := by rintro rfl; exact h
    have hv : k v w := by
      cases y with
      | ofNat n => cases n with
        | zero => exact h.elim
        | succ n => exact h
      | negSucc n => exact h
    rw [hr hy w]; exact hk _ _ hv
  | shf y v =>
    cases y with
    | ofNat n => rw [hr (by simp) w]; exact hk _ _ h
    | negSucc n => exact h.elim
  | cat x y => rw [hr h.1 w]; exact hk _ _ h.2
  | read x kd => obtain ⟨v, h1, h2⟩ := h; rw [hr _ _ _ h1]; exact hk _ _ h2
  | op x kd => obtain ⟨v, w', h1, h2⟩ := h; rw [hr _ _ _ h1]; exact hk _ _ h2
  | act x => obtain ⟨w', h1, h2⟩ := h; rw [hr _ _ h1]; exact hk _ _ h2
  | dyn f args kd =>
    cases f with
    | func fn first caps =>
      cases fn with
      | func g =>
        rw [hr.1 g first caps rfl w]
        obtain ⟨he, hc⟩ | ⟨x, w', h1, h2⟩ := h
        · rw [he _ w]
          refine ⟨by simp [Fence.wide], CallsIn.mono (callsIn_wide.2 hc) ?_⟩
          rintro e w' ⟨x, rfl, hx⟩
          exact hk _ _ hx
        · rw [h1]; exact hk _ _ h2
      | yield l =>
        rw [hr.2 l first caps rfl w]
        obtain ⟨f, tmps, assign, body, h1, h2⟩ := h
        rw [h1]
        refine ⟨by simp [Fence.wide], RoundIn.mono h2 ?_⟩
        rintro e w' ⟨x, rfl, hx⟩
        exact hk _ _ hx
      | _ => exact h.elim
    | _ => exact h.elim
  | nxt x =>
    obtain ⟨v, w', h1, h2⟩ := h
    rw [hr _ _ _ h1]
    rcases h2 with ⟨rfl, h2⟩ | ⟨x, y, rfl, h2⟩
    · exact hk _ _ h2
    · exact hk _ _ h2
  | ent x => obtain ⟨x, y, h1, h2⟩ := h; rw [hr _ _ _ h1]; exact hk _ _ h2
  | cast v kd =>
    cases hx : unV kd v with
    | none => simp [Cls.wp, mcast, hx] at h
    | some x =>
      simp only [Cls.wp, mcast, hx] at h
      rw [← unV_spec _ _ _ hx] at h
      rw [hr w]; exact hk _ _ h
  | bad => exact h.elim
end
end Go.W
namespace Go.W
open Go
structure Rel (env : Env) (a : Act) : Prop where
  len : env.length = a.tmps.size
  val : ∀ (t : Nat) (v : Value), env[t]? = some (some v) → a.tmps[t]? = some v
def ELe (env env' : Env) : Prop := env.length = env'.length ∧ ∀ (t : Nat) (v : Value), env[t]? = some (some v) → env'[t]? = some (some v)
theorem ELe.rfl {e : Env} : ELe e e := ⟨Eq.refl _, fun _ _ h => h⟩
theorem Rel.mono {e e' : Env} {a : Act} (h : Rel e' a) (hl : ELe e e') : Rel e a := ⟨hl.1.trans h.len, fun t v hv => h.val t v (hl.2 t v hv)⟩
theorem getD_none {env : Env} {t : Nat} {v : Value} (h : env.getD t none = some v) : env[t]? = some (some v) := by
  rw [List.getD_eq_getElem?_getD] at h
  cases hx : env[t]? with
  | none => simp [hx] at h
  | some x => simp [hx] at h; rw [h]
theorem Rel.eval {env : Env} {a : Act} (hR : Rel env a) {x : Operand} {v : Value} (h : rdE env x = some v) : a.eval x = v := by
  cases x with
  | tmp t => simp only [Act.eval, Array.getD_eq_getD_getElem?]; rw [hR.val t v (getD_none h)]; simp
  | const c => simpa [rdE, Act.eval] using h
  | global g => simpa [rdE, Act.eval] using h
  | func f => simpa [rdE, Act.eval] using h
theorem put_get {env : Env} {d t : Nat} {u v : Value} (h : (env.set d (some u))[t]? = some (some v)) : (t = d ∧ v = u ∧ d < env.length) ∨ (t ≠ d ∧ env[t]? = some (some v)) := by
  by_cases e : t = d
  · subst e
    rw [List.getElem?_set_self'] at h
    cases hx : env[t]? with
    | none => simp [hx] at h
    | some x => simp [hx] at h; exact .inl ⟨rfl, h.symm, (List.getElem?_eq_some_iff.1 hx).1⟩
  · rw [List.getElem?_set_ne (by omega)] at h; exact .inr ⟨e, h⟩
theorem Rel.put {env : Env} {a : Act} (hR : Rel env a) (d : Option Tmp) (v : Value) : Rel (putE env d v) (a.put d v) := by
  cases d with
  | none => exact hR
  | some d =>
    refine ⟨by simp [putE, Act.put, hR.len], fun t u h => ?_⟩
    rcases put_get h with ⟨rfl, rfl, hl⟩ | ⟨hne, h⟩
    · simp [Act.put, ← hR.len, hl]
    · simp only [Act.put]; rw [Array.getElem?_setIfInBounds_ne (by omega)]; exact hR.val t u h
theorem okE_mem {env : Env} {o : Op} (h : okE env o = true) {x : Operand} (hx : x ∈ o.operands) : rdE env x = some (ρ env x) := by
  unfold okE at h
  rw [List.all_eq_true] at h
  have := h x (by simpa using hx)
  unfold ρ
  cases hr : rdE env x with
  | none => simp [hr] at this
  | some v => rfl
section
variable {P : Program} {Q : Exit → Act → World → Prop}
theorem exec_eq {env : Env} {o : Oper} {a : Act} (hok : okE env o.op = true) (hs : ∀ cs b, o.op ≠ .select cs b)
    (hv : ∀ x ∈ o.op.operands, ∀ v, rdE env x = some v → a.eval x = v) : execOp a.eval o = execOp (ρ env) o :=
  execOp_congr o hs fun x hx => hv x hx _ (okE_mem hok hx)
theorem cls_select {o : Oper} {r : Operand → Value} {cs : Array SelectCase} {b : Bool} (h : o.op = .select cs b) : cls P o.op o.type r = .bad := by
  rw [h]; rfl
theorem cls_defer {o : Oper} {r : Operand → Value} {c : Call} (h : o.op = .defer c) : cls P o.op o.type r = .bad := by
  rw [h]; rfl
theorem step_sound {ro : Option Nat} {o : Oper} {env : Env} {a : Act} {w : World} {K : Env → World → Prop} {next : Act → World → Prop}
    (hv : ∀ x ∈ o.op.operands, ∀ v, rdE env x = some v → a.eval x = v) (h : stepW P o env K w)
    (hK : ∀ v w, K (putE env o.dst v) w → next (a.put o.dst v) w) : o.wpIn (Fw ro) 0 P a w next Q := by
  unfold stepW at h
  cases hok : okE env o.op with
  | false => simp [hok] at h
  | true =>
    simp only [hok] at h
    by_cases hs : ∃ cs b, o.op = .select cs b
    · obtain ⟨cs, b, e⟩ := hs; rw [cls_select e] at h; exact h.elim
    · by_cases hd : ∃ c, o.op = .defer c
      · obtain ⟨c, e⟩ := hd; rw [cls_defer e] at h; exact h.elim
      · refine ⟨fun _ _ => trivial, ?_⟩
        have e : o.semAt (Fw ro).round a.eval = execOp a.eval o := by
          cases ro with
          | none => rfl
          | some l => exact Oper.semAt_some l _ o fun c e => hd ⟨c, e⟩
        rw [e, exec_eq hok (fun cs b e => hs ⟨cs, b, e⟩) hv]
        exact Cls.ran_wp (cls_ran o _) h hK
def guardW (ops : List Oper) (o : Oper) (env : Env) (yes no : Env → World → Prop) : World → Prop :=
  match o.guard with
  | none => yes env
  | some (g, want) =>
    match (ops[g]?).bind (·.dst) with
    | none => no env
    | some d =>
      match env.getD d none with
      | some (.bool b) =>
        match want with
        | true => mif b (yes (env.set d (some (.bool true)))) (no (env.set d (some (.bool false))))
        | false => mif b (no (env.set d (some (.bool true)))) (yes (env.set d (some (.bool false))))
      | some _ => no env
      | none => fun _ => False
def opsW (P : Program) (ops : List Oper) (K : Env → World → Prop) : List Oper → Env → World → Prop
  | [], env => K env
  | o :: l, env => guardW ops o env (fun env => stepW P o env (opsW P ops K l)) (fun env => opsW P ops K l (putE env o.dst undef))
theorem set_same {env : Env} {d : Nat} {v : Value} (h : env.getD d none = some v) : env.set d (some v) = env := by
  have h' := getD_none h
  obtain ⟨hl, he⟩ := List.getElem?_eq_some_iff.1 h'
  rw [← he, List.set_getElem_self]
theorem guard_all {ops : Array Oper} {o : Oper} {env : Env} {w : World} {yes no : Env → World → Prop} (h : guardW ops.toList o env yes no w) :
    (yes env w ∧ ∀ tmps : Array Value, (∀ g want d, o.guard = some (g, want) → (ops[g]?).bind (·.dst) = some d → ∀ v, env[d]? = some (some v) → tmps[d]? = some v) → Region.wanted o (yielded ops tmps) = true) ∨
    (no env w ∧ ∀ tmps : Array Value, (∀ g want d, o.guard = some (g, want) → (ops[g]?).bind (·.dst) = some d → ∀ v, env[d]? = some (some v) → tmps[d]? = some v) → Region.wanted o (yielded ops tmps) = false) := by
  unfold guardW at h
  cases hg : o.guard with
  | none => simp only [hg] at h; exact .inl ⟨h, fun _ _ => by simp [Region.wanted, hg]⟩
  | some gw =>
    obtain ⟨g, want⟩ := gw
    simp only [hg, Array.getElem?_toList] at h
    have hw : ∀ tmps, Region.wanted o (yielded ops tmps) = (yielded ops tmps g == some want) := by intro tmps; simp [Region.wanted, hg]
    simp only [hw]
    unfold yielded
    cases hd : (ops[g]?).bind (·.dst) with
    | none => simp only [hd] at h; exact .inr ⟨h, fun _ _ => by simp⟩
    | some d =>
      simp only [hd] at h
      cases he : env.getD d none with
      | none => simp only [he] at h
      | some v =>
        have ht : ∀ tmps : Array Value, (∀ g' want' d', some (g, want) = some (g', want') → (ops[g']?).bind (·.dst) = some d' → ∀ v, env[d']? = some (some v) → tmps[d']? = some v) → tmps[d]? = some v :=
          fun tmps hv => hv g want d rfl hd v (getD_none he)
        cases v
        case bool b =>
          simp only [he] at h
          have e1 := set_same he
          cases b <;> cases want <;> simp only [mif, e1] at h
          all_goals first
            | exact .inl ⟨h, fun tmps hv => by simp [ht tmps hv]⟩
            | exact .inr ⟨h, fun tmps hv => by simp [ht tmps hv]⟩
        all_goals (simp only [he] at h; exact .inr ⟨h, fun tmps hv => by simp [ht tmps hv]⟩)
theorem guard_sound {ops : Array Oper} {o : Oper} {env : Env} {tmps : Array Value} {w : World} {yes no : Env → World → Prop}
    (hv : ∀ g want d, o.guard = some (g, want) → (ops[g]?).bind (·.dst) = some d → ∀ v, env[d]? = some (some v) → tmps[d]? = some v)
    (h : guardW ops.toList o env yes no w) :
    (Region.wanted o (yielded ops tmps) = true ∧ yes env w) ∨ (Region.wanted o (yielded ops tmps) = false ∧ no env w) :=
  (guard_all h).imp (fun ⟨h1, h2⟩ => ⟨h2 tmps hv, h1⟩) (fun ⟨h1, h2⟩ => ⟨h2 tmps hv, h1⟩)
theorem Rel.ops {env : Env} {a : Act} (hR : Rel env a) {x : Operand} {v : Value} (h : rdE env x = some v) : a.eval x = v := hR.eval h
theorem ops_sound {ro : Option Nat} {ops : Array Oper} {K : Env → World → Prop} {I : Act → Prop} (hI : ∀ a d v, I a → I (a.put d v)) (hQ : ∀ env a w, I a → Rel env a → K env w → Q .normal a w) :
    ∀ (l : List Oper) (env : Env) (a : Act) (w : World), I a → Rel env a → opsW P ops.toList K l env w → wpListIn (Fw ro) 0 P ops Q l a w := by
  intro l
  induction l with
  | nil => intro env a w hD hR h; exact hQ env a w hD hR h
  | cons o l ih =>
    intro env a w hD hR h
    unfold opsW at h
    unfold wpListIn
    rcases guard_sound (tmps := a.tmps) (fun _ _ _ _ _ v hv => hR.val _ v hv) h with ⟨hw, hy⟩ | ⟨hw, hn⟩
    · rw [if_pos hw]
      exact (step_sound (fun x _ v hx => hR.eval hx) hy fun v w' hk => ih _ _ _ (hI _ _ _ hD) (hR.put _ _) hk)
    · rw [if_neg (by simp [hw])]
      exact ⟨fun _ _ => trivial, ih _ _ _ (hI _ _ _ hD) (hR.put _ _) hn⟩
end
def tmpsOf (o : Oper) : List Tmp := o.op.operands.toList.filterMap fun | .tmp t => some t | _ => none
def readsOf (ops : List Oper) (o : Oper) : List Tmp :=
  match o.guard with
  | some (g, _) => match (ops[g]?).bind (·.dst) with | some d => d :: tmpsOf o | none => tmpsOf o
  | none => tmpsOf o
def bmE (acc : List Nat) : List Edge → Nat → Nat
  | [], s => s
  | e :: l, s => match Region.binds .any e with
    | true => bmE acc l (s ||| ((1 <<< e.on) ||| acc.getD e.on 0))
    | false => bmE acc l s
def masks : List Oper → List Nat → List Nat
  | [], acc => acc
  | o :: l, acc => masks l (acc ++ [bmE acc o.after.toList 0])
def kindLoud (P : Program) : Op → Bool
  | .defer _ | .alloc _ | .box .. | .buildSlice .. | .store .. | .mapUpdate .. | .mapEntry .. | .entryStore .. | .insert .. | .range .. | .next .. | .makeMap .. | .makeSlice .. => true
  | .convert a b _ => match P.underlying a, P.underlying b with | some .string, some (.slice _) => true | _, _ => false
  | .call c => match c.callee with | .builtin .len | .builtin .cap | .builtin .min | .builtin .max | .builtin .real | .builtin .imag => false | _ => true
  | _ => false
def lonely (ops : List Oper) (M : List Nat) (i : Nat) (d : Tmp) : List Oper → Nat → Bool
  | [], _ => true
  | o :: l, j => (match Nat.beq j i with
    | true => !((readsOf ops o).contains d)
    | false => (match (readsOf ops o).contains d with | true => (M.getD j 0).testBit i | false => true) && (match o.dst with | some e => !(Nat.beq e d) | none => true)) && lonely ops M i d l (j + 1)
def loudFlags (P : Program) (ops : List Oper) (M : List Nat) : List Oper → Nat → List Bool
  | [], _ => []
  | o :: l, i => (match kindLoud P o.op with
    | true => true
    | false => match o.dst with | some d => !(lonely ops M i d ops 0) | none => true) :: loudFlags P ops M l (i + 1)
def apartFrom (ops : List Oper) (M : List Nat) (F : List Bool) (i m : Nat) (d : Tmp) : List Oper → Nat → Bool
  | [], _ => true
  | o :: l, j => (match Nat.beq j i || F.getD j true || !((readsOf ops o).contains d) with
    | true => true
    | false => (M.getD j 0).testBit i || m.testBit j) && apartFrom ops M F i m d l (j + 1)
def edgesBack : List Edge → Nat → Bool
  | [], _ => true
  | e :: l, i => (match Region.binds .any e with | true => Nat.blt e.on i | false => true) && edgesBack l i
def fitD (ops : List Oper) (M : List Nat) (F : List Bool) : List Oper → Nat → Bool
  | [], _ => true
  | o :: l, i => (match F.getD i true, o.dst with | true, some d => apartFrom ops M F i (M.getD i 0) d ops 0 | _, _ => true) && edgesBack o.after.toList i && fitD ops M F l (i + 1)
def readyI (M : List Nat) (C i : Nat) : Bool := match C.testBit i with | true => false | false => Nat.beq ((M.getD i 0) &&& C) (M.getD i 0)
def firstQ (M : List Nat) (F : List Bool) (C : Nat) : List Oper → Nat → Option (Nat × Oper)
  | [], _ => none
  | o :: l, i => match F.getD i true with
    | true => firstQ M F C l (i + 1)
    | false => match readyI M C i with | true => some (i, o) | false => firstQ M F C l (i + 1)
def allReady (M : List Nat) (C : Nat) : List Oper → Nat → List (Nat × Oper)
  | [], _ => []
  | o :: l, i => match readyI M C i with | true => (i, o) :: allReady M C l (i + 1) | false => allReady M C l (i + 1)
def Cls.qwp (P : Program) (c : Cls) (k : Option (Sem Value) → Value → World → Prop) : World → Prop :=
  match c with
  | .pure v => k none v
  | .nil p => mnil p fun a => k none (.pointer (some a))
  | .div y v => mdz y (k none v)
  | .shf y v => mng y (k none v)
  | .cat a b => mcat a b fun l => k none (.string ⟨l.toArray⟩)
  | .read s kd => mrd P s kd fun x => k (some s) (KV kd x)
  | .ent s => ment P s fun x y => k (some s) (.tuple #[x, y])
  | .cast v kd => mcast v kd fun x => k none (KV kd x)
  | _ => fun _ => False
abbrev Watch := List (Nat × Sem Value × Value)
def addW (os : Option (Sem Value)) (i : Nat) (v : Value) (wl : Watch) : Watch := match os with | some s => (i, s, v) :: wl | none => wl
def dropW (m : Nat) : Watch → Watch
  | [] => []
  | x :: l => match m.testBit x.1 with | true => dropW m l | false => x :: dropW m l
def stays (P : Program) : Watch → (World → Prop) → World → Prop
  | [], k => k
  | x :: l, k => mst P x.2.1 x.2.2 (stays P l k)
def drawW (P : Program) (ops : List Oper) (M : List Nat) (F : List Bool) (full : Nat) (K : Env → World → Prop) : Nat → Nat → Watch → Env → World → Prop
  | 0, _, _, _ => fun _ => False
  | f + 1, C, wl, env =>
    match firstQ M F C ops 0 with
    | some (i, o) => guardW ops o env
        (fun env => match okE env o.op with
          | true => (cls P o.op o.type (ρ env)).qwp P fun os v => drawW P ops M F full K f (C ||| (1 <<< i)) (addW os i v wl) (putE env o.dst v)
          | false => fun _ => False)
        (fun env => drawW P ops M F full K f (C ||| (1 <<< i)) wl (putE env o.dst undef))
    | none =>
      match allReady M C ops 0 with
      | [] => match Nat.beq C full with | true => K env | false => fun _ => False
      | l => mall (fun io => guardW ops io.2 env
          (fun env => stepW P io.2 env fun env' => stays P (dropW (M.getD io.1 0) wl) (drawW P ops M F full K f (C ||| (1 <<< io.1)) (dropW (M.getD io.1 0) wl) env'))
          (fun env => drawW P ops M F full K f (C ||| (1 <<< io.1)) (dropW (M.getD io.1 0) wl) (putE env io.2.dst undef))) l
def regionW (P : Program) (ops : List Oper) (K : Env → World → Prop) (env : Env) : World → Prop :=
  let M := masks ops []
  let F := loudFlags P ops M ops 0
  match fitD ops M F ops 0 with
  | true => drawW P ops M F ((1 <<< ops.length) - 1) K (ops.length + 1) 0 [] env
  | false => fun _ => False
end Go.W
namespace Go.W
open Go
section
variable {P : Program} {Q : Exit → Act → World → Prop}
def condOf (P : Program) : Option (Sem Value) → Value → World → Prop
  | none, _, _ => True
  | some s, v, w => s.run P w = .ok v w
theorem qwp_spec {c : Cls} {s : Sem Next} {k : Option (Sem Value) → Value → World → Prop} {w : World} (hr : c.ran P s) (h : c.qwp P k w) :
    ∃ os v, k os v w ∧ condOf P os v w ∧ ∀ w, condOf P os v w → s.run P w = .ok (.value v) w := by
  cases c with
  | pure v => exact ⟨none, v, h, trivial, fun w _ => hr w⟩
  | nil p =>
    cases p with
    | none => exact h.elim
    | some a => exact ⟨none, _, h, trivial, fun w _ => hr a rfl w⟩
  | div y v =>
    cases y with
    | ofNat n => cases n with
      | zero => exact h.elim
      | succ n => exact ⟨none, v, h, trivial, fun w _ => hr (by simp; omega) w⟩
    | negSucc n => exact ⟨none, v, h, trivial, fun w _ => hr (by simp) w⟩
  | shf y v =>
    cases y with
    | ofNat n => exact ⟨none, v, h, trivial, fun w _ => hr (by simp) w⟩
    | negSucc n => exact h.elim
  | cat a b => exact ⟨none, _, h.2, trivial, fun w _ => hr h.1 w⟩
  | read x kd => obtain ⟨v, h1, h2⟩ := h; exact ⟨some x, _, h2, h1, fun w hw => hr _ _ _ hw⟩
  | ent x => obtain ⟨y, z, h1, h2⟩ := h; exact ⟨some x, _, h2, h1, fun w hw => hr _ _ _ hw⟩
  | cast v kd =>
    cases hx : unV kd v with
    | none => simp [Cls.qwp, mcast, hx] at h
    | some x =>
      simp only [Cls.qwp, mcast, hx] at h
      rw [← unV_spec _ _ _ hx] at h
      exact ⟨none, v, h, trivial, fun w _ => hr w⟩
  | nxt x => exact h.elim
  | op x kd => exact h.elim
  | act x => exact h.elim
  | dyn f args kd => exact h.elim
  | bad => exact h.elim
theorem bmE_mem (acc : List Nat) (l : List Edge) : ∀ (s j : Nat), (bmE acc l s).testBit j = true ↔
    s.testBit j = true ∨ ∃ e ∈ l, Region.binds .any e = true ∧ (e.on = j ∨ (acc.getD e.on 0).testBit j = true) := by
  induction l with
  | nil => intro s j; simp [bmE]
  | cons e l ih =>
    intro s j
    unfold bmE
    cases hb : Region.binds .any e with
    | true =>
      simp only [ih, List.mem_cons, exists_eq_or_imp, hb, true_and]
      simp only [Nat.testBit_or, Nat.one_shiftLeft, Nat.testBit_two_pow, Bool.or_eq_true, decide_eq_true_eq]
      constructor
      · rintro ((h | h | h) | h)
        · exact .inl h
        · exact .inr (.inl (.inl h))
        · exact .inr (.inl (.inr h))
        · exact .inr (.inr h)
      · rintro (h | (h | h) | h)
        · exact .inl (.inl h)
        · exact .inl (.inr (.inl h))
        · exact .inl (.inr (.inr h))
        · exact .inr h
    | false => simp [ih, hb]
theorem masks_pre (l : List Oper) : ∀ acc, ∃ r, masks l acc = acc ++ r ∧ r.length = l.length := by
  induction l with
  | nil => intro acc; exact ⟨[], by simp [masks], rfl⟩
  | cons o l ih =>
    intro acc
    obtain ⟨r, h, hl⟩ := ih (acc ++ [bmE acc o.after.toList 0])
    exact ⟨bmE acc o.after.toList 0 :: r, by simp [masks, h], by simp [hl]⟩
theorem masks_get (l : List Oper) : ∀ (acc : List Nat) (i : Nat) (o : Oper), l[i]? = some o →
    ∃ acc', (masks l acc)[acc.length + i]? = some (bmE acc' o.after.toList 0) ∧ acc' <+: masks l acc ∧ acc'.length = acc.length + i := by
  induction l with
  | nil => intro acc i o h; simp at h
  | cons o' l ih =>
    intro acc i o h
    cases i with
    | zero =>
      simp at h; subst h
      obtain ⟨r, hr, _⟩ := masks_pre l (acc ++ [bmE acc o'.after.toList 0])
      exact ⟨acc, by simp [masks, hr], ⟨_, by simp only [masks]; rw [hr, List.append_assoc]⟩, rfl⟩
    | succ i =>
      obtain ⟨acc', h1, h2, h3⟩ := ih (acc ++ [bmE acc o'.after.toList 0]) i o (by simpa using h)
      refine ⟨acc', ?_, by simpa [masks] using h2, by simp at h3; omega⟩
      have : acc.length + (i + 1) = (acc ++ [bmE acc o'.after.toList 0]).length + i := by simp; omega
      rw [this]; simpa [masks] using h1
theorem mask_iff {l : List Oper} {i : Nat} {o : Oper} (h : l[i]? = some o) (hb : ∀ e ∈ o.after.toList, Region.binds .any e = true → e.on < i) (j : Nat) :
    ((masks l []).getD i 0).testBit j = true ↔ ∃ e ∈ o.after.toList, Region.binds .any e = true ∧ (e.on = j ∨ ((masks l []).getD e.on 0).testBit j = true) := by
  obtain ⟨acc', h1, h2, h3⟩ := masks_get l [] i o h
  simp at h1 h3
  rw [List.getD_eq_getElem?_getD, h1]
  simp only [Option.getD_some]
  rw [bmE_mem]
  simp only [Nat.zero_testBit, Bool.false_eq_true, false_or]
  constructor
  · rintro ⟨e, he, hbd, hx⟩
    refine ⟨e, he, hbd, hx.imp id fun hx => ?_⟩
    have := hb e he hbd
    rw [List.getD_eq_getElem?_getD] at hx ⊢
    obtain ⟨r, hr⟩ := h2
    rw [← hr, List.getElem?_append_left (by omega)]; exact hx
  · rintro ⟨e, he, hbd, hx⟩
    refine ⟨e, he, hbd, hx.imp id fun hx => ?_⟩
    have := hb e he hbd
    rw [List.getD_eq_getElem?_getD] at hx ⊢
    obtain ⟨r, hr⟩ := h2
    rw [← hr, List.getElem?_append_left (by omega)] at hx; exact hx
theorem or_bit (C i j : Nat) : (C ||| (1 <<< i)).testBit j = true ↔ C.testBit j = true ∨ j = i := by
  rw [Nat.testBit_or, Nat.one_shiftLeft, Nat.testBit_two_pow, Bool.or_eq_true, decide_eq_true_eq]
  exact ⟨fun h => h.imp id Eq.symm, fun h => h.imp id Eq.symm⟩
theorem readyI_iff {M : List Nat} {C i : Nat} : readyI M C i = true ↔ C.testBit i = false ∧ ∀ j, (M.getD i 0).testBit j = true → C.testBit j = true := by
  unfold readyI
  cases hc : C.testBit i with
  | true => simp
  | false =>
    simp only [true_and, Nat.beq_eq]
    constructor
    · intro h j hj
      rw [← h, Nat.testBit_and] at hj
      simp at hj; exact hj.2
    · intro h
      apply Nat.eq_of_testBit_eq
      intro j
      rw [Nat.testBit_and]
      cases hm : (M.getD i 0).testBit j with
      | false => simp
      | true => simp [h j hm]
theorem firstQ_some {M : List Nat} {F : List Bool} {C : Nat} (l : List Oper) : ∀ (k i : Nat) (o : Oper), firstQ M F C l k = some (i, o) →
    k ≤ i ∧ l[i - k]? = some o ∧ F.getD i true = false ∧ readyI M C i = true := by
  induction l with
  | nil => intro k i o h; simp [firstQ] at h
  | cons a l ih =>
    intro k i o h
    unfold firstQ at h
    cases hf : F.getD k true with
    | true =>
      simp only [hf] at h
      obtain ⟨h1, h2, h3⟩ := ih _ _ _ h
      refine ⟨by omega, ?_, h3⟩
      rw [show i - k = (i - (k + 1)) + 1 by omega]; simpa using h2
    | false =>
      simp only [hf] at h
      cases hr : readyI M C k with
      | true => simp only [hr, Option.some.injEq, Prod.mk.injEq] at h; obtain ⟨rfl, rfl⟩ := h; exact ⟨Nat.le_refl _, by simp, hf, hr⟩
      | false =>
        simp only [hr] at h
        obtain ⟨h1, h2, h3⟩ := ih _ _ _ h
        refine ⟨by omega, ?_, h3⟩
        rw [show i - k = (i - (k + 1)) + 1 by omega]; simpa using h2
theorem firstQ_none {M : List Nat} {F : List Bool} {C : Nat} (l : List Oper) : ∀ (k : Nat), firstQ M F C l k = none → ∀ (i : Nat) (o : Oper), l[i]? = some o → readyI M C (k + i) = true → F.getD (k + i) true = true := by
  induction l with
  | nil => intro k _ i o h; simp at h
  | cons a l ih =>
    intro k h i o hi hr
    unfold firstQ at h
    cases i with
    | zero =>
      simp at hr
      cases hf : F.getD k true with
      | true => rfl
      | false => simp only [hf, hr] at h; simp at h
    | succ i =>
      have e : k + (i + 1) = (k + 1) + i := by omega
      rw [e] at hr ⊢
      refine ih (k + 1) ?_ i o (by simpa using hi) hr
      cases hf : F.getD k true with
      | true => simpa only [hf] using h
      | false =>
        simp only [hf] at h
        cases hr : readyI M C k with
        | true => simp [hr] at h
        | false => simpa only [hr] using h
theorem allReady_mem {M : List Nat} {C : Nat} (l : List Oper) : ∀ (k : Nat) (i : Nat) (o : Oper), l[i]? = some o → readyI M C (k + i) = true → (k + i, o) ∈ allReady M C l k := by
  induction l with
  | nil => intro k i o h; simp at h
  | cons a l ih =>
    intro k i o h hr
    unfold allReady
    cases i with
    | zero => simp at h hr; subst h; simp [hr]
    | succ i =>
      have := ih (k + 1) i o (by simpa using h) (by rw [show k + 1 + i = k + (i + 1) by omega]; exact hr)
      rw [show k + 1 + i = k + (i + 1) by omega] at this
      cases hk : readyI M C k with
      | true => exact List.mem_cons_of_mem _ this
      | false => exact this
theorem mall_mem {α : Type} {k : α → World → Prop} {w : World} : ∀ {l : List α}, mall k l w → ∀ x ∈ l, k x w
  | [], _, x, hx => by simp at hx
  | [y], h, x, hx => by simp at hx; subst hx; exact h
  | y :: z :: l, h, x, hx => by
    rcases List.mem_cons.1 hx with rfl | hx
    · exact h.1
    · exact mall_mem h.2 x hx
theorem lonely_spec {ops : List Oper} {M : List Nat} {i : Nat} {d : Tmp} (l : List Oper) : ∀ k, lonely ops M i d l k = true → ∀ (j : Nat) (o : Oper), l[j]? = some o → (k + j = i → d ∉ readsOf ops o) ∧ (k + j ≠ i → (d ∈ readsOf ops o → (M.getD (k + j) 0).testBit i = true) ∧ o.dst ≠ some d) := by
  induction l with
  | nil => intro k _ j o h; simp at h
  | cons a l ih =>
    intro k h j o hj
    unfold lonely at h
    rw [Bool.and_eq_true] at h
    cases j with
    | zero =>
      simp at hj; subst hj
      obtain ⟨h1, _⟩ := h
      simp only [Nat.add_zero]
      refine ⟨fun he hd => ?_, fun hne => ?_⟩
      · subst he
        have hb : Nat.beq k k = true := by simp
        have hc : (readsOf ops a).contains d = true := by simpa using hd
        simp only [hb, hc] at h1; cases h1
      · have : Nat.beq k i = false := by cases hb : Nat.beq k i with | true => exact absurd (Nat.eq_of_beq_eq_true hb) hne | false => rfl
        simp only [this, Bool.and_eq_true] at h1
        refine ⟨fun hd => ?_, fun hd => ?_⟩
        · have hc : (readsOf ops a).contains d = true := by simpa using hd
          have := h1.1; simp only [hc] at this; exact this
        · have := h1.2; simp [hd] at this
    | succ j =>
      have := ih (k + 1) h.2 j o (by simpa using hj)
      rwa [show k + 1 + j = k + (j + 1) by omega] at this
theorem loudFlags_get {ops : List Oper} {M : List Nat} (l : List Oper) : ∀ (k i : Nat) (o : Oper), l[i]? = some o →
    (loudFlags P ops M l k)[i]? = some (match kindLoud P o.op with | true => true | false => match o.dst with | some d => !(lonely ops M (k + i) d ops 0) | none => true) := by
  induction l with
  | nil => intro k i o h; simp at h
  | cons a l ih =>
    intro k i o h
    unfold loudFlags
    cases i with
    | zero => simp at h; subst h; rfl
    | succ i => rw [List.getElem?_cons_succ, ih (k + 1) i o (by simpa using h)]; rw [show k + 1 + i = k + (i + 1) by omega]
theorem apartFrom_spec {ops : List Oper} {M : List Nat} {F : List Bool} {i m : Nat} {d : Tmp} (l : List Oper) : ∀ k, apartFrom ops M F i m d l k = true → ∀ (j : Nat) (o : Oper), l[j]? = some o → k + j ≠ i →
    F.getD (k + j) true = false → d ∈ readsOf ops o → (M.getD (k + j) 0).testBit i = true ∨ m.testBit (k + j) = true := by
  induction l with
  | nil => intro k _ j o h; simp at h
  | cons a l ih =>
    intro k h j o hj hne hf hd
    unfold apartFrom at h
    rw [Bool.and_eq_true] at h
    cases j with
    | zero =>
      simp at hj hne hf ⊢; subst hj
      obtain ⟨h1, _⟩ := h
      have hb : Nat.beq k i = false := by cases hb : Nat.beq k i with | true => exact absurd (Nat.eq_of_beq_eq_true hb) hne | false => rfl
      have hc : (readsOf ops a).contains d = true := by simpa using hd
      have : (Nat.beq k i || F.getD k true || !((readsOf ops a).contains d)) = false := by rw [hb, hc]; simpa using hf
      simp only [this, Bool.or_eq_true] at h1
      simpa using h1
    | succ j =>
      have := ih (k + 1) h.2 j o (by simpa using hj) (by omega) (by rw [show k + 1 + j = k + (j + 1) by omega]; exact hf) hd
      rwa [show k + 1 + j = k + (j + 1) by omega] at this
theorem edgesBack_spec (l : List Edge) (i : Nat) (h : edgesBack l i = true) : ∀ e ∈ l, Region.binds .any e = true → e.on < i := by
  induction l with
  | nil => simp
  | cons a l ih =>
    unfold edgesBack at h
    rw [Bool.and_eq_true] at h
    intro e he hb
    rcases List.mem_cons.1 he with rfl | he
    · have := h.1; rw [hb] at this; simpa [Nat.blt_eq] using this
    · exact ih h.2 e he hb
theorem fitD_spec {ops : List Oper} {M : List Nat} {F : List Bool} (l : List Oper) : ∀ k, fitD ops M F l k = true → ∀ (i : Nat) (o : Oper), l[i]? = some o →
    (F.getD (k + i) true = true → ∀ d, o.dst = some d → apartFrom ops M F (k + i) (M.getD (k + i) 0) d ops 0 = true) ∧ ∀ e ∈ o.after.toList, Region.binds .any e = true → e.on < k + i := by
  induction l with
  | nil => intro k _ i o h; simp at h
  | cons a l ih =>
    intro k h i o hi
    unfold fitD at h
    simp only [Bool.and_eq_true] at h
    cases i with
    | zero =>
      simp at hi; subst hi
      refine ⟨fun hf d hd => ?_, fun e he hb => by simpa using edgesBack_spec _ _ h.1.2 e he hb⟩
      have := h.1.1
      simp at hf
      simp only [List.getD_eq_getElem?_getD, hf, hd] at this
      simpa using this
    | succ i =>
      have := ih (k + 1) h.2 i o (by simpa using hi)
      rwa [show k + 1 + i = k + (i + 1) by omega] at this
theorem tmp_reads {ops : List Oper} {o : Oper} {t : Tmp} (h : Operand.tmp t ∈ o.op.operands) : t ∈ readsOf ops o := by
  have h1 : t ∈ tmpsOf o := List.mem_filterMap.2 ⟨.tmp t, by simpa using h, rfl⟩
  unfold readsOf
  split
  · split
    · exact List.mem_cons_of_mem _ h1
    · exact h1
  · exact h1
theorem guard_reads {ops : List Oper} {o : Oper} {g d : Nat} {want : Bool} (h : o.guard = some (g, want)) (hd : (ops[g]?).bind (·.dst) = some d) : d ∈ readsOf ops o := by
  unfold readsOf; simp [h, hd]
def Yld (P : Program) (ops : Array Oper) (o : Oper) (env : Env) (w : World) (v : Value) : Prop :=
  ∀ a : Act, (∀ t ∈ readsOf ops.toList o, ∀ u, env[t]? = some (some u) → a.tmps[t]? = some u) →
    (Region.wanted o (yielded ops a.tmps) = true ∧ (execOp a.eval o).run P w = .ok (.value v) w) ∨ (Region.wanted o (yielded ops a.tmps) = false ∧ v = undef)
theorem eval_of_reads {ops : List Oper} {o : Oper} {env : Env} {a : Act} (h : ∀ t ∈ readsOf ops o, ∀ u, env[t]? = some (some u) → a.tmps[t]? = some u)
    {x : Operand} (hx : x ∈ o.op.operands) {v : Value} (hv : rdE env x = some v) : a.eval x = v := by
  cases x with
  | tmp t => simp only [Act.eval, Array.getD_eq_getD_getElem?]; rw [h t (tmp_reads hx) v (getD_none hv)]; simp
  | const c => simpa [rdE, Act.eval] using hv
  | global g => simpa [rdE, Act.eval] using hv
  | func f => simpa [rdE, Act.eval] using hv
theorem Yld.env {ops : Array Oper} {o : Oper} {env env' : Env} {w : World} {v : Value} (h : Yld P ops o env w v)
    (he : ∀ t ∈ readsOf ops.toList o, env'[t]? = env[t]?) : Yld P ops o env' w v :=
  fun a ha => h a fun t ht u hu => ha t ht u ((he t ht).trans hu)
structure Pend (P : Program) (ops : Array Oper) (wl : Watch) (C : Nat) (env : Env) (w : World) (i : Nat) : Prop where
  q : ∃ o d v os, ops[i]? = some o ∧ o.dst = some d ∧ (loudFlags P ops.toList (masks ops.toList []) ops.toList 0).getD i true = false ∧ (d < env.length → env[d]? = some (some v)) ∧
    (∀ j, ((masks ops.toList []).getD i 0).testBit j = true → C.testBit j = true) ∧
    condOf P os v w ∧ (∀ w, condOf P os v w → Yld P ops o env w v) ∧ (os = none ∨ ∃ s, os = some s ∧ (i, s, v) ∈ wl)
structure DI (P : Program) (ops : Array Oper) (wl : Watch) (C : Nat) (L : Nat → Bool) (env : Env) (a : Act) (w : World) : Prop where
  sub : ∀ i, i < ops.size → L i = true → C.testBit i = true
  cin : ∀ i, C.testBit i = true → i < ops.size
  closed : ∀ i, i < ops.size → L i = true → ∀ j, ((masks ops.toList []).getD i 0).testBit j = true → L j = true
  len : env.length = a.tmps.size
  val : ∀ (t : Nat) (v : Value), env[t]? = some (some v) → (∃ i o, ops[i]? = some o ∧ C.testBit i = true ∧ L i = false ∧ o.dst = some t) ∨ a.tmps[t]? = some v
  pend : ∀ i, C.testBit i = true → L i = false → Pend P ops wl C env w i
  wat : ∀ x ∈ wl, x.2.1.run P w = .ok x.2.2 w
end
end Go.W
