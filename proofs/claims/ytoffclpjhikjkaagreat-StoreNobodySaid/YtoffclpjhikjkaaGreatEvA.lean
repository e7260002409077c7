/- An evaluator of the language: values whose addresses are names; to be run by the kernel. -/
import GoSem.Step
import Derived.Calls
import Derived.Orders
set_option linter.unusedSimpArgs false
set_option linter.unusedVariables false
namespace Go.Proofs.YtoffclpjhikjkaaGreat.Ev
open Go
/-- a function that the kernel keeps -/
structure Fn1 (α : Type) where
  f : α
/-- a value whose addresses are names -/
structure AV where
  tg : Nat
  x : Nat
  y : Nat
  z : Nat
  c : Nat
  l : List AV
  r : List AV
def seqN {α : Type} (n : Nat) (k : Nat → α) : α := Nat.casesOn n (k 0) (fun m => k (m + 1))
def seqO {α β : Type} (o : Option α) (k : α → Option β) : Option β := Option.casesOn o none k
def seqP {α β γ : Type} (o : Option (α × β)) (k : α → β → Option γ) : Option γ := Option.casesOn o none fun p => k p.1 p.2
def ifB {α : Type} (b : Bool) (x : Option α) : Option α := bif b then x else none
instance : Inhabited AV := ⟨⟨0, 0, 0, 0, 0, [], []⟩⟩
/-- 0 whatever, 1 int (kind, unsigned), 2 string (length, packed), 3 bool, 4 pointer (block, place), 5 slice (block, place, length, capacity), 6 map, 7 yield, 8 func (number; first; captured), 9 tuple, 10 struct or array, 11 interface (type; value), 12 float64, 13 complex128, 20 .. nil: pointer, slice, map, func, interface; 25 undef -/
abbrev AV.int (k n : Nat) : AV := ⟨1, k, n, 0, 0, [], []⟩
abbrev AV.str (n v : Nat) : AV := ⟨2, n, v, 0, 0, [], []⟩
abbrev AV.bool (b : Bool) : AV := ⟨3, bif b then 1 else 0, 0, 0, 0, [], []⟩
abbrev AV.ptr (b o : Nat) : AV := ⟨4, b, o, 0, 0, [], []⟩
abbrev AV.sl (b o n c : Nat) : AV := ⟨5, b, o, n, c, [], []⟩
abbrev AV.map (b : Nat) : AV := ⟨6, b, 0, 0, 0, [], []⟩
abbrev AV.yield (l : Nat) : AV := ⟨7, l, 0, 0, 0, [], []⟩
abbrev AV.fn (g : Nat) (a b : List AV) : AV := ⟨8, g, 0, 0, 0, a, b⟩
abbrev AV.tup (l : List AV) : AV := ⟨9, 0, 0, 0, 0, l, []⟩
abbrev AV.agg (l : List AV) : AV := ⟨10, 0, 0, 0, 0, l, []⟩
abbrev AV.ifc (t : Nat) (v : AV) : AV := ⟨11, t, 0, 0, 0, [v], []⟩
abbrev AV.fl (b : Nat) : AV := ⟨12, b, 0, 0, 0, [], []⟩
abbrev AV.cx (a b : Nat) : AV := ⟨13, a, b, 0, 0, [], []⟩
abbrev AV.nl (k : Nat) : AV := ⟨k, 0, 0, 0, 0, [], []⟩
abbrev AV.undef : AV := ⟨25, 0, 0, 0, 0, [], []⟩
def AV.is (v : AV) (k : Nat) : Bool := Nat.beq v.tg k
/-- temporaries: a full tree -/
def Tr : Nat → Type
  | 0 => AV
  | n + 1 => Tr n × Tr n
def Tr.all (x : AV) : (n : Nat) → Tr n
  | 0 => x
  | n + 1 => (Tr.all x n, Tr.all x n)
def getp : (d : Nat) → Nat → Fn1 (Tr d → AV)
  | 0, _ => ⟨fun t => t⟩
  | d + 1, k => bif Nat.beq (k % 2) 0 then ⟨fun t => (getp d (k / 2)).f t.1⟩ else ⟨fun t => (getp d (k / 2)).f t.2⟩
def setp : (d : Nat) → Nat → Fn1 (Tr d → AV → Tr d)
  | 0, _ => ⟨fun _ x => x⟩
  | d + 1, k => bif Nat.beq (k % 2) 0 then ⟨fun t x => ((setp d (k / 2)).f t.1 x, t.2)⟩ else ⟨fun t x => (t.1, (setp d (k / 2)).f t.2 x)⟩
/-- a tree by numbers -/
inductive PT (α : Type) where
  | e
  | n (l : PT α) (v : Option α) (r : PT α)
namespace PT
variable {α : Type}
def get : PT α → Nat → Option α
  | .e, _ => none
  | .n l v r, k => bif Nat.beq k 0 then v else bif Nat.beq (k % 2) 0 then r.get (k / 2 - 1) else l.get (k / 2)
def mkp (f : Nat) : Nat → Option α → PT α := Nat.rec (fun _ _ => .e) (fun _ ih k x => bif Nat.beq k 0 then .n .e x .e else bif Nat.beq (k % 2) 0 then .n .e none (ih (k / 2 - 1) x) else .n (ih (k / 2) x) none .e) f
def set : PT α → Nat → Option α → PT α
  | .e, k, x => mkp 40 k x
  | .n l v r, k, x => bif Nat.beq k 0 then .n l x r else bif Nat.beq (k % 2) 0 then .n l v (r.set (k / 2 - 1) x) else .n (l.set (k / 2) x) v r
end PT
/-- kinds of ints: twice the bits, and one more for a sign -/
def kc : IntKind → Nat
  | .i8 => 17 | .i16 => 33 | .i32 => 65 | .i64 => 129 | .u8 => 16 | .u16 => 32 | .u32 => 64 | .u64 => 128
def km : IntKind → Nat
  | .i8 | .u8 => 256 | .i16 | .u16 => 65536 | .i32 | .u32 => 4294967296 | .i64 | .u64 => 18446744073709551616
def kh : IntKind → Nat
  | .i8 => 128 | .i16 => 32768 | .i32 => 2147483648 | .i64 => 9223372036854775808 | _ => 0
def kOf (c : Nat) : IntKind := match c with
  | 17 => .i8 | 33 => .i16 | 65 => .i32 | 129 => .i64 | 16 => .u8 | 32 => .u16 | 64 => .u32 | _ => .u64
def D : Nat := 8
abbrev TM := Tr D
inductive LS where | ready | busy | done | exhausted
structure ADef where
  /-- 0: gathered calls of a block; 1: a function's call -/
  k : Nat
  x : Nat
  args : List AV
inductive Oth where
  | map (es : List (AV × AV × Nat)) (clock : Nat)
  | mit (m : Option Nat) (since : Nat) (seen : List Nat) (stepped : Nat)
  | loop (st : LoopState) (pend : Option Code) (fn : FuncId) (tm : TM) (nt : Nat) (params : Array Tmp) (assign body : Code) (dfs : Nat)
  | dfd (l : Option (List ADef))
inductive Blk where
  | cells (cs : PT AV) (n : Nat) (e : TypeId) (lo : Bool) (grp sh f h : Nat)
  | oth (o : Oth)
structure AW where
  nx : Nat
  bl : PT Blk
  gr : PT (List Nat)
structure St where
  tm : TM
  ds : List ADef
  w : AW
  rnd : Option Nat
  df : Bool
inductive Ex where
  | normal | exit (i : Nat) | goto (l : Nat) | ret
abbrev R1 := Option St
abbrev R2 := Option (Ex × St)
structure Rec where
  call : FuncId → List AV → Bool → AW → Option (AV × AW)
  code : Nat → Code → St → R2
def pack : List UInt8 → Nat
  | [] => 0
  | x :: l => x.toNat + 256 * pack l
def junk : AV := ⟨0, 0, 0, 0, 0, [], []⟩
def signed (k : IntKind) : Bool := !Nat.beq (kh k) 0
def toInt (k : IntKind) (a : Nat) : Int := bif signed k && !Nat.blt a (kh k) then (a : Int) - (km k : Int) else (a : Int)
def big : Nat := 1000000000000
def one : Value → Bool
  | .agg _ => false
  | .tuple _ => false
  | _ => true
def intV (k : IntKind) (n : Int) (a : Nat) : AV := bif decide (toInt k a = n) && Nat.blt a (km k) then AV.int (kc k) a else junk
def strV (l : List UInt8) (n : Nat) : AV := bif Nat.blt n big then AV.str n (pack l) else junk
/-- constants -/
def ofV : Nat → Value → AV
  | 0, _ => junk
  | d + 1, v => match v with
    | .bool x => AV.bool x
    | .int k n => intV k n (n % (km k : Int)).toNat
    | .string s => strV s.data.toList s.data.toList.length
    | .float .f64 b => .fl b
    | .complex .f64 a b => .cx a b
    | .pointer none => .nl 20
    | .slice none 0 0 => .nl 21
    | .map none => .nl 22
    | .nilFunc => .nl 23
    | .nilIface => .nl 24
    | .agg cs => bif cs.toList.all one then .agg (cs.toList.map (ofV d)) else junk
    | .tuple cs => match cs.toList with
      | [] => .undef
      | l => .tup (l.map (ofV d))
    | .iface t x => .ifc t (ofV d x)
    | .func (.func f) xs ys => .fn f (xs.toList.map (ofV d)) (ys.toList.map (ofV d))
    | _ => junk
/-- a list's length is known to the kernel -/
def lget {α : Type} : List α → Nat → Option α
  | [], _ => none
  | x :: l, i => bif Nat.beq i 0 then some x else lget l (i - 1)
def AV.cells (v : AV) : Option (List AV) := bif v.is 10 then some v.l else bif v.is 9 || v.is 0 || v.is 25 then none else some [v]
def AW.new (w : AW) (b : Nat → Blk) (cells : Bool) : Option (Nat × AW) := ifB (Nat.blt w.nx big) (seqN (w.nx + 1) fun n => some (w.nx, ⟨n, w.bl.set w.nx (some (b w.nx)), bif cells then w.gr.set w.nx (some [w.nx]) else w.gr⟩))
/-- cells as a tree, from place i on -/
def ptOf : List AV → Nat → PT AV → PT AV
  | [], _, t => t
  | x :: l, i, t => ptOf l (i + 1) (t.set i (some x))
def AW.row (w : AW) (cs : List AV) (e : TypeId) (lo : Bool) : Option (Nat × AW) := ifB (Nat.ble cs.length big) (w.new (fun i => .cells (ptOf cs 0 .e) cs.length e lo i 0 0 0) true)
def AW.put (w : AW) (b : Nat) (x : Blk) : AW := ⟨w.nx, w.bl.set b (some x), w.gr⟩
/-- n cells from place o on -/
def ptPart (cs : PT AV) (n : Nat) : Nat → Option (List AV) := Nat.rec (fun _ => some []) (fun _ ih o => seqO (cs.get o) fun x => seqO (ih (o + 1)) fun l => some (x :: l)) n
def AW.cellsAt (w : AW) (b o n : Nat) : Option (List AV) := seqO (w.bl.get b) fun x => match x with
  | .cells cs k _ _ _ _ _ _ => ifB (Nat.ble (o + n) k) (ptPart cs n o)
  | .oth _ => none
def AW.cell (w : AW) (b o : Nat) : Option AV := seqO (w.bl.get b) fun x => match x with
  | .cells cs k _ _ _ _ _ _ => ifB (Nat.blt o k) (cs.get o)
  | .oth _ => none
/-- those that may share memory, and know of a place from g on below h -/
def kill1 (g h : Nat) (j : Nat) (bl : PT Blk) : Option Blk → PT Blk
  | some (.cells _ n _ _ _ sh _ _) => bif Nat.ble (sh + n) g || Nat.ble h sh then bl else bl.set j none
  | _ => bl
def kills (me g h : Nat) : List Nat → PT Blk → PT Blk
  | [], bl => bl
  | j :: l, bl => kills me g h l (bif Nat.beq j me then bl else kill1 g h j bl (bl.get j))
def killS (me g h : Nat) (l : List Nat) (bl : PT Blk) : PT Blk := match l with
  | [] => bl
  | [_] => bl
  | l => kills me g h l bl
def lO (o : Option (List Nat)) : List Nat := match o with | some l => l | none => []
def noFz (lo hi o n : Nat) : Bool := Nat.ble hi lo || Nat.ble hi o || Nat.ble (o + n) lo
def AW.write (w : AW) (b o m : Nat) (put : PT AV → PT AV) : Option AW := seqO (w.bl.get b) fun x => match x with
  | .cells cs n e lo gp sh f h => ifB (Nat.ble (o + m) n && (Nat.ble n big && noFz f h o m)) (some ⟨w.nx, (killS b (sh + o) (sh + o + m) (lO (w.gr.get gp)) w.bl).set b (some (.cells (put cs) n e lo gp sh f h)), w.gr⟩)
  | .oth _ => none
def AW.writeL (w : AW) (b o : Nat) (xs : List AV) : Option AW := w.write b o xs.length (ptOf xs o)
def fetch : Operand → Fn1 (TM → AV)
  | .tmp t => getp D t
  | .const v => ⟨fun _ => ofV 4 v⟩
  | .func f => ⟨fun _ => AV.fn f [] []⟩
  | .global _ => ⟨fun _ => junk⟩
def putK (d : Option Tmp) : Fn1 (TM → AV → TM) := match d with
  | none => ⟨fun t _ => t⟩
  | some k => setp D k
def fin (d : Option Tmp) : Fn1 (St → AV → R1) := ⟨fun s x => some ⟨(putK d).f s.tm x, s.ds, s.w, s.rnd, s.df⟩⟩
def finW (d : Option Tmp) : Fn1 (St → Option (AV × AW) → R1) := ⟨fun s o => seqP o fun x w => some ⟨(putK d).f s.tm x, s.ds, w, s.rnd, s.df⟩⟩
def finU (d : Option Tmp) : Fn1 (St → Option AW → R1) := ⟨fun s o => seqO o fun w => some ⟨(putK d).f s.tm .undef, s.ds, w, s.rnd, s.df⟩⟩
def finO (d : Option Tmp) : Fn1 (St → Option AV → R1) := ⟨fun s o => seqO o fun x => (fin d).f s x⟩
def finI (d : Option Tmp) (k : Nat) : Fn1 (St → Nat → R1) := ⟨fun s n => seqN n fun n => (fin d).f s (AV.int k n)⟩
def finB (d : Option Tmp) : Fn1 (St → Bool → R1) := ⟨fun s b => bif b then (fin d).f s (AV.bool true) else (fin d).f s (AV.bool false)⟩
def failOp : Fn1 (Rec → St → R1) := ⟨fun _ _ => none⟩
def both (k : Nat) (a b : AV) (e : Nat → Nat → R1) : R1 := ifB (a.is 1 && b.is 1 && Nat.beq a.x k && Nat.beq b.x k) (e a.y b.y)
def isAgg (P : Program) (t : TypeId) : Option Bool := match P.underlying t with
  | some (.struct _) => some true
  | some (.array _ _) => some true
  | some _ => some false
  | none => none
def sizeOf (P : Program) (t : TypeId) : Option Nat := (P.info? t).map (·.size)
def bytesOf (P : Program) (t : TypeId) : Option Nat := (P.info? t).map (·.bytes)
def zero (P : Program) (t : TypeId) : Option AV := match P.info? t with
  | some i => i.zero.map (ofV 4)
  | none => none
/-- what a variable of a type holds -/
def loadC (P : Program) (t : TypeId) : Fn1 (AW → Nat → Nat → Option AV) := match isAgg P t, sizeOf P t with
  | some true, some n => ⟨fun w b o => seqO (w.cellsAt b o n) fun l => some (.agg l)⟩
  | some false, some _ => ⟨fun w b o => w.cell b o⟩
  | _, _ => ⟨fun _ _ _ => none⟩
def storeC (P : Program) (t : TypeId) : Fn1 (AW → Nat → Nat → AV → Option AW) := match isAgg P t, sizeOf P t with
  | some true, some n => ⟨fun w b o v => ifB (v.is 10) (ifB (Nat.beq v.l.length n) (w.writeL b o v.l))⟩
  | some false, some 1 => ⟨fun w b o v => ifB (!(v.is 10 || v.is 9 || v.is 0 || v.is 25)) (w.write b o 1 fun cs => cs.set o (some v))⟩
  | _, _ => ⟨fun _ _ _ _ => none⟩
def ldrop {α : Type} : List α → Nat → List α
  | [], _ => []
  | x :: l, i => bif Nat.beq i 0 then x :: l else ldrop l (i - 1)
def ltake {α : Type} : List α → Nat → List α
  | [], _ => []
  | x :: l, i => bif Nat.beq i 0 then [] else x :: ltake l (i - 1)
def lpart {α : Type} (l : List α) (i n : Nat) : Option (List α) := ifB (Nat.ble (i + n) l.length) (some (ltake (ldrop l i) n))
def lput0 : List AV → List AV → List AV
  | [], ys => ys
  | _ :: _, [] => []
  | x :: l, _ :: ys => x :: lput0 l ys
/-- ys written over l from place i on -/
def lput (l : List AV) (i : Nat) (ys : List AV) : List AV := ltake l i ++ lput0 ys (ldrop l i)
def part (P : Program) (t : TypeId) (cs : List AV) (off : Nat) : Option AV :=
  match isAgg P t, sizeOf P t with
  | some true, some n => seqO (lpart cs off n) fun l => some (.agg l)
  | some false, some _ => lget cs off
  | _, _ => none
def fill (place : Nat → Option (Nat × Nat)) : List (Nat × AV) → List AV → Option (List AV)
  | [], cells => some cells
  | p :: ps, cells => seqP (place p.1) fun off size => seqO p.2.cells fun xs => ifB (Nat.beq xs.length size && Nat.ble (off + size) cells.length) (fill place ps (lput cells off xs))
def places (P : Program) : List Field → Option (List (Nat × Nat))
  | [] => some []
  | f :: l => seqO (sizeOf P f.type) fun n => seqO (places P l) fun r => some ((f.offset, n) :: r)
def repl {α : Type} (l : List α) (n : Nat) : List α := Nat.rec [] (fun _ ih => l ++ ih) n
def b256 (n v : Nat) : Nat := v % 256 ^ n
def bytes (n : Nat) : Nat → List Nat := Nat.rec (fun _ => []) (fun _ ih v => (v % 256) :: ih (v / 256)) n
def less : List Nat → List Nat → Bool
  | [], [] => false
  | [], _ :: _ => true
  | _ :: _, [] => false
  | a :: x, b :: y => Nat.blt a b || (Nat.beq a b && less x y)
end Go.Proofs.YtoffclpjhikjkaaGreat.Ev
namespace Go.Proofs.YtoffclpjhikjkaaGreat.Ev
open Go
/-- strings -/
def strK (n v : Nat) (k : AV → R1) : R1 := seqN n fun n => seqN v fun v => k (AV.str n v)
def sEq (n v m u : Nat) : Bool := Nat.beq n m && Nat.beq (b256 n v) (b256 m u)
def binS (op : BinOp) (d : Option Tmp) : Fn1 (St → Nat → Nat → Nat → Nat → R1) :=
  match op with
  | .add => ⟨fun s n v m u => ifB (Nat.blt (n + m) big) (strK (n + m) (b256 n v + u * 256 ^ n) fun x => (fin d).f s x)⟩
  | .eql => ⟨fun s n v m u => (finB d).f s (sEq n v m u)⟩
  | .neq => ⟨fun s n v m u => (finB d).f s (!sEq n v m u)⟩
  | .lss => ⟨fun s n v m u => (finB d).f s (less (bytes n v) (bytes m u))⟩
  | .leq => ⟨fun s n v m u => (finB d).f s (!less (bytes m u) (bytes n v))⟩
  | .gtr => ⟨fun s n v m u => (finB d).f s (less (bytes m u) (bytes n v))⟩
  | .geq => ⟨fun s n v m u => (finB d).f s (!less (bytes n v) (bytes m u))⟩
  | _ => ⟨fun _ _ _ _ _ => none⟩
def nn (k : IntKind) (a b : Nat) : Bool := Nat.beq (kh k) 0 || (Nat.blt a (kh k) && Nat.blt b (kh k))
def cmpI (k : IntKind) (a : Nat) : Nat := (a + kh k) % km k
def binI (op : BinOp) (k : IntKind) (d : Option Tmp) : Fn1 (St → Nat → Nat → R1) :=
  match op with
  | .add => ⟨fun s a b => (finI d (kc k)).f s ((a + b) % km k)⟩
  | .sub => ⟨fun s a b => (finI d (kc k)).f s ((a + (km k - b)) % km k)⟩
  | .mul => ⟨fun s a b => (finI d (kc k)).f s ((a * b) % km k)⟩
  | .quo => ⟨fun s a b => ifB (nn k a b && !Nat.beq b 0) ((finI d (kc k)).f s (a / b))⟩
  | .rem => ⟨fun s a b => ifB (nn k a b && !Nat.beq b 0) ((finI d (kc k)).f s (a % b))⟩
  | .and => ⟨fun s a b => (finI d (kc k)).f s (Nat.land a b)⟩
  | .or => ⟨fun s a b => (finI d (kc k)).f s (Nat.lor a b)⟩
  | .xor => ⟨fun s a b => (finI d (kc k)).f s (Nat.xor a b)⟩
  | .andNot => ⟨fun s a b => (finI d (kc k)).f s (Nat.land a (km k - 1 - b))⟩
  | .eql => ⟨fun s a b => (finB d).f s (Nat.beq a b)⟩
  | .neq => ⟨fun s a b => (finB d).f s (!Nat.beq a b)⟩
  | .lss => ⟨fun s a b => (finB d).f s (Nat.blt (cmpI k a) (cmpI k b))⟩
  | .leq => ⟨fun s a b => (finB d).f s (Nat.ble (cmpI k a) (cmpI k b))⟩
  | .gtr => ⟨fun s a b => (finB d).f s (Nat.blt (cmpI k b) (cmpI k a))⟩
  | .geq => ⟨fun s a b => (finB d).f s (Nat.ble (cmpI k b) (cmpI k a))⟩
  | _ => ⟨fun _ _ _ => none⟩
def shI (op : BinOp) (k : IntKind) (d : Option Tmp) : Fn1 (St → Nat → Nat → R1) :=
  match op with
  | .shl => ⟨fun s a n => ifB (Nat.blt n 128) ((finI d (kc k)).f s ((a * 2 ^ n) % km k))⟩
  | .shr => ⟨fun s a n => ifB (Nat.blt n 128 && nn k a 0) ((finI d (kc k)).f s (a / 2 ^ n))⟩
  | _ => ⟨fun _ _ _ => none⟩
def farith (op : BinOp) (x y : Nat) : Option Nat :=
  match op with
  | .add => FloatKind.f64.format.add x y
  | .sub => FloatKind.f64.format.sub x y
  | .mul => FloatKind.f64.format.mul x y
  | .quo => FloatKind.f64.format.div x y
  | _ => none
def fcmp (op : BinOp) (x y : Nat) : Option Bool :=
  match op with
  | .eql => some (FloatKind.f64.format.order x y == some .eq)
  | .neq => some (FloatKind.f64.format.order x y != some .eq)
  | .lss => some (FloatKind.f64.format.order x y == some .lt)
  | .leq => some (FloatKind.f64.format.order x y == some .lt || FloatKind.f64.format.order x y == some .eq)
  | .gtr => some (FloatKind.f64.format.order x y == some .gt)
  | .geq => some (FloatKind.f64.format.order x y == some .gt || FloatKind.f64.format.order x y == some .eq)
  | _ => none
def isArith : BinOp → Bool | .add | .sub | .mul | .quo => true | _ => false
def binF (op : BinOp) (d : Option Tmp) : Fn1 (St → Nat → Nat → R1) := bif isArith op then ⟨fun s a b => seqO (farith op a b) fun r => seqN r fun r => (fin d).f s (.fl r)⟩ else ⟨fun s a b => seqO (fcmp op a b) fun r => (finB d).f s r⟩
def cxK (d : Option Tmp) : Fn1 (St → Nat → Nat → R1) := ⟨fun s a b => seqN a fun a => seqN b fun b => (fin d).f s (.cx a b)⟩
def binC (op : BinOp) (d : Option Tmp) : Fn1 (St → Nat → Nat → Nat → Nat → R1) :=
  match op with
  | .add => ⟨fun s a b c e => seqO (farith .add a c) fun r => seqO (farith .add b e) fun i => (cxK d).f s r i⟩
  | .sub => ⟨fun s a b c e => seqO (farith .sub a c) fun r => seqO (farith .sub b e) fun i => (cxK d).f s r i⟩
  | .mul => ⟨fun s a b c e => seqO (farith .mul a c) fun ac => seqO (farith .mul b e) fun bd => seqO (farith .mul a e) fun ad => seqO (farith .mul b c) fun bc => seqO (farith .sub ac bd) fun r => seqO (farith .add ad bc) fun i => (cxK d).f s r i⟩
  | .eql => ⟨fun s a b c e => seqO (fcmp .eql a c) fun x => seqO (fcmp .eql b e) fun y => (finB d).f s (x && y)⟩
  | .neq => ⟨fun s a b c e => seqO (fcmp .eql a c) fun x => seqO (fcmp .eql b e) fun y => (finB d).f s (!(x && y))⟩
  | _ => ⟨fun _ _ _ _ _ => none⟩
/-- what is nil, what surely is not -/
def nilV (a : AV) : Option Bool := bif Nat.ble 20 a.tg && Nat.ble a.tg 24 then some true else bif Nat.ble 4 a.tg && Nat.ble a.tg 8 || a.is 11 then some false else none
def andO (a b : Option Bool) : Option Bool := seqO a fun x => bif x then b else some false
def flds (P : Program) (eq : TypeId → AV → AV → Option Bool) (xs ys : List AV) : List Field → Option Bool
  | [] => some true
  | f :: l => bif f.name == "_" then flds P eq xs ys l else
    seqO (part P f.type xs f.offset) fun a => seqO (part P f.type ys f.offset) fun b => andO (eq f.type a b) (flds P eq xs ys l)
def arrq (P : Program) (eq : TypeId → AV → AV → Option Bool) (e : TypeId) (n : Nat) (xs ys : List AV) : Nat → Nat → Option Bool
  | 0, _ => some true
  | k + 1, i => seqO (part P e xs (i * n)) fun a => seqO (part P e ys (i * n)) fun b => andO (eq e a b) (arrq P eq e n xs ys k (i + 1))
/-- equality, of scalars and of structs and arrays of scalars -/
def eqv (P : Program) : Nat → TypeId → AV → AV → Option Bool
  | 0, _, _, _ => none
  | d + 1, t, x, y =>
    match P.underlying t with
    | some .bool => ifB (x.is 3 && y.is 3) (some (Nat.beq x.x y.x))
    | some (.int _) => ifB (x.is 1 && y.is 1 && Nat.beq x.x y.x) (some (Nat.beq x.y y.y))
    | some .string => ifB (x.is 2 && y.is 2) (some (sEq x.x x.y y.x y.y))
    | some (.struct fs) => ifB (x.is 10 && y.is 10 && !(P.stoodInHeld t)) (flds P (eqv P d) x.l y.l fs.toList)
    | some (.array len e) => seqO (sizeOf P e) fun n => ifB (x.is 10 && y.is 10) (arrq P (eqv P d) e n x.l y.l len 0)
    | some (.pointer e) => bif x.is 4 && y.is 4 then seqO (sizeOf P e) fun n => ifB (Nat.beq x.x y.x && !(Nat.beq n 0)) (some (Nat.beq x.y y.y)) else
      bif x.is 20 then (bif y.is 20 || y.is 4 then nilV y else none) else ifB (x.is 4 && y.is 20) (some false)
    | some (.slice _) => bif x.is 21 then (bif y.is 21 || y.is 5 then nilV y else none) else ifB (x.is 5 && y.is 21) (some false)
    | some (.map _ _) => bif x.is 22 then (bif y.is 22 || y.is 6 then nilV y else none) else ifB (x.is 6 && y.is 22) (some false)
    | some (.func _ _ _) => bif x.is 23 then (bif y.is 23 || y.is 8 then nilV y else none) else ifB (x.is 8 && y.is 23) (some false)
    | _ => none
def isShift : BinOp → Bool | .shl | .shr => true | _ => false
/-- ==, != of what is no number and no string -/
def binE (P : Program) (op : BinOp) (t : TypeId) (d : Option Tmp) : Fn1 (St → AV → AV → R1) :=
  bif P.eqGuardType P.depth t then ⟨fun _ _ _ => none⟩ else
  match op with
  | .eql => ⟨fun s a b => seqO (eqv P 6 t a b) fun r => (finB d).f s r⟩
  | .neq => ⟨fun s a b => seqO (eqv P 6 t a b) fun r => (finB d).f s (!r)⟩
  | _ => ⟨fun _ _ _ => none⟩
def isCn : Operand → Bool | .const _ => true | _ => false
def nilI (a b : AV) : Option Bool := bif a.is 24 then (bif b.is 24 then some true else ifB (b.is 11) (some false)) else ifB (a.is 11 && b.is 24) (some false)
def binN (op : BinOp) (d : Option Tmp) : Fn1 (St → AV → AV → R1) := match op with
  | .eql => ⟨fun s a b => seqO (nilI a b) fun r => (finB d).f s r⟩
  | .neq => ⟨fun s a b => seqO (nilI a b) fun r => (finB d).f s (!r)⟩
  | _ => ⟨fun _ _ _ => none⟩
def binC0 (P : Program) (op : BinOp) (t : TypeId) (cn : Bool) (d : Option Tmp) : Fn1 (St → AV → AV → R1) :=
  match P.underlying t with
  | some (.int k) => bif isShift op then ⟨fun s a b => ifB (a.is 1 && Nat.beq a.x (kc k) && b.is 1) ((shI op k d).f s a.y b.y)⟩ else ⟨fun s a b => both (kc k) a b fun x y => (binI op k d).f s x y⟩
  | some .string => ⟨fun s a b => ifB (a.is 2 && b.is 2) ((binS op d).f s a.x a.y b.x b.y)⟩
  | some (.float .f64) => ⟨fun s a b => ifB (a.is 12 && b.is 12) ((binF op d).f s a.x b.x)⟩
  | some (.complex .f64) => ⟨fun s a b => ifB (a.is 13 && b.is 13) ((binC op d).f s a.x a.y b.x b.y)⟩
  | some (.interface _) => bif cn then binN op d else ⟨fun _ _ _ => none⟩
  | some _ => binE P op t d
  | none => ⟨fun _ _ _ => none⟩
def unC (P : Program) (op : UnOp) (t : TypeId) (d : Option Tmp) : Fn1 (St → AV → R1) :=
  match op, P.underlying t with
  | .neg, some (.int k) => ⟨fun s a => ifB (a.is 1 && Nat.beq a.x (kc k)) ((finI d (kc k)).f s ((km k - a.y) % km k))⟩
  | .xor, some (.int k) => ⟨fun s a => ifB (a.is 1 && Nat.beq a.x (kc k)) ((finI d (kc k)).f s (km k - 1 - a.y))⟩
  | .not, some .bool => ⟨fun s a => ifB (a.is 3) ((finB d).f s (Nat.beq a.x 0))⟩
  | _, _ => ⟨fun _ _ => none⟩
/-- slices of bytes and strings -/
def str8 (n v : Nat) : List AV := (bytes n v).map (AV.int 16)
def packA : List AV → Option Nat
  | [] => some 0
  | x :: l => ifB (x.is 1 && Nat.beq x.x 16) (seqO (packA l) fun r => some (x.y + 256 * r))
def widen (j k : IntKind) : Fn1 (Nat → Nat) := bif signed j && Nat.blt (km j) (km k) then ⟨fun a => bif Nat.blt a (kh j) then a else a + (km k - km j)⟩ else ⟨fun a => a % km k⟩
def u8T (P : Program) (e : TypeId) : Bool := match P.underlying e with | some (.int .u8) => true | _ => false
def szOk (P : Program) (e : TypeId) : Bool := match sizeOf P e with | some 1 => true | _ => false
def strOf (d : Option Tmp) : Fn1 (St → Nat → Option (List AV) → R1) := ⟨fun s n o => seqO o fun l => seqO (packA l) fun v => strK n v fun x => (fin d).f s x⟩
def cvC (P : Program) (a b : TypeId) (d : Option Tmp) : Fn1 (St → AV → R1) :=
  match P.underlying a, P.underlying b with
  | some (.int j), some (.int k) => ⟨fun s v => ifB (v.is 1 && Nat.beq v.x (kc j)) ((finI d (kc k)).f s ((widen j k).f v.y))⟩
  | some (.int j), some (.float .f64) => ⟨fun s v => ifB (v.is 1 && Nat.beq v.x (kc j)) (seqN (FloatKind.f64.nearest (toInt j v.y)) fun r => (fin d).f s (.fl r))⟩
  | some (.float .f64), some (.int k) => ⟨fun s v => ifB (v.is 12) (seqO ((FloatKind.f64.decode v.x).toInt .zero) fun n => ifB (decide (k.min ≤ n) && decide (n ≤ k.max)) ((finI d (kc k)).f s (n % (km k : Int)).toNat))⟩
  | some .string, some .string => ⟨fun s v => ifB (v.is 2) ((fin d).f s v)⟩
  | some (.slice e), some .string => bif u8T P e then ⟨fun s v => bif v.is 21 then (fin d).f s (.str 0 0) else ifB (v.is 5) ((strOf d).f s v.z (s.w.cellsAt v.x v.y v.z))⟩ else ⟨fun _ _ => none⟩
  | some (.pointer t), some .unsafePointer => match sizeOf P t with
    | some (_ + 1) => ⟨fun s v => ifB (v.is 4) (seqO (s.w.cell v.x v.y) fun _ => (fin d).f s v)⟩
    | _ => ⟨fun _ _ => none⟩
  | some .unsafePointer, some (.pointer t) => match sizeOf P t with
    | some (z + 1) => ⟨fun s v => ifB (v.is 4 && Nat.beq v.y 0) (seqO (s.w.bl.get v.x) fun x => match x with
      | .cells _ n e lo _ _ _ _ => ifB (Nat.beq e t && (Nat.ble (z + 1) n && !lo)) ((fin d).f s v)
      | .oth _ => none)⟩
    | _ => ⟨fun _ _ => none⟩
  | _, _ => ⟨fun _ _ => none⟩
def looseB (w : AW) (b : Nat) : Option Bool := seqO (w.bl.get b) fun x => match x with
  | .cells _ _ _ lo _ _ _ _ => some lo
  | .oth _ => none
/-- an int that is what it looks like -/
def idxOk (i : AV) : Bool := i.is 1 && (Nat.beq i.x 129 || Nat.beq (i.x % 2) 0)
/-- is it loose; of these elements, if so -/
def looseE (w : AW) (b : Nat) (e : TypeId) : Option Bool := seqO (w.bl.get b) fun x => match x with
  | .cells _ _ e' lo _ _ _ _ => ifB (!lo || Nat.beq e e') (some lo)
  | .oth _ => none
/-- bounds: what is left out has a default -/
def bndC (x : Option Operand) : Fn1 (TM → Nat → Nat → Option Nat) := match x with
  | none => ⟨fun _ _ d => some d⟩
  | some x => ⟨fun tm y _ => (fun v : AV => ifB (idxOk v && Nat.ble v.y y && Nat.blt v.y 9223372036854775808) (some v.y)) ((fetch x).f tm)⟩
def slK (b o z n : Nat) (c : Nat) (k : AV → R1) : R1 := seqN (o + z) fun o => seqN n fun n => seqN c fun c => k (.sl b o n c)
def slLo (d : Option Tmp) (z : Nat) (lo hi : Option Operand) : Fn1 (St → AV → R1) := ⟨fun s v => seqO ((bndC hi).f s.tm v.z v.z) fun h => seqO ((bndC lo).f s.tm h 0) fun l => slK v.x v.y (l * z) (h - l) 0 fun x => (fin d).f s x⟩
def slEx (d : Option Tmp) (z : Nat) (lo hi : Option Operand) : Fn1 (St → Nat → Nat → Nat → Nat → R1) := ⟨fun s b o n c => seqO ((bndC hi).f s.tm c n) fun h => seqO ((bndC lo).f s.tm h 0) fun l => ifB (Nat.blt h big) <| slK b o (bif Nat.beq c l then 0 else l * z) (h - l) (c - l) fun x => (fin d).f s x⟩
def slC (P : Program) (t : TypeId) (d : Option Tmp) (lo hi : Option Operand) : Fn1 (St → AV → R1) :=
  match P.underlying t with
  | some .string => ⟨fun s v => ifB (v.is 2) (seqO ((bndC hi).f s.tm v.x v.x) fun h => seqO ((bndC lo).f s.tm h 0) fun l => strK (h - l) (v.y / 256 ^ l % 256 ^ (h - l)) fun x => (fin d).f s x)⟩
  | some (.slice e) => match sizeOf P e with
    | some z => ⟨fun s v => bif v.is 21 then seqO ((bndC hi).f s.tm 0 0) fun h => seqO ((bndC lo).f s.tm h 0) fun _ => (fin d).f s v else
      ifB (v.is 5) (seqO (looseE s.w v.x e) fun b => bif b then (slLo d z lo hi).f s v else (slEx d z lo hi).f s v.x v.y v.z v.c)⟩
    | none => ⟨fun _ _ => none⟩
  | some (.array n e) => match sizeOf P e with
    | some z => ⟨fun s v => ifB (v.is 4) (seqO (looseB s.w v.x) fun b => ifB (!b) ((slEx d z lo hi).f s v.x v.y n n))⟩
    | none => ⟨fun _ _ => none⟩
  | _ => ⟨fun _ _ => none⟩
def boolT (P : Program) (t : TypeId) : Bool := match P.underlying t with | some (.int _) | some .string | some .bool => true | _ => false
def upTo : Nat → List Nat
  | 0 => []
  | n + 1 => upTo n ++ [n]
def keyOk (P : Program) (kt : TypeId) (k : AV) : Bool := match P.underlying kt with
  | some (.int _) => k.is 1
  | some .string => k.is 2
  | some .bool => k.is 3
  | some (.struct fs) => k.is 10 && fs.toList.all fun f => boolT P f.type && (part P f.type k.l f.offset).isSome
  | some (.array n e) => k.is 10 && (boolT P e && match sizeOf P e with | some z => (upTo n).all fun i => (part P e k.l (i * z)).isSome | none => false)
  | _ => false
def findE (P : Program) (kt : TypeId) (k : AV) : List (AV × AV × Nat) → Nat → Option (Option (Nat × AV × Nat))
  | [], _ => some none
  | e :: l, i => seqO (eqv P 4 kt k e.1) fun b => bif b then some (some (i, e.2)) else findE P kt k l (i + 1)
/-- a value that is known whole -/
def solid1 (v : AV) : Bool := v.is 1 || v.is 2 || v.is 3
def solid (v : AV) : Bool := solid1 v || (v.is 10 && v.l.all solid1)
def eqL (f : AV → AV → Bool) : List AV → List AV → Bool
  | [], [] => true
  | x :: l, y :: m => f x y && eqL f l m
  | _, _ => false
def aveqN : Nat → AV → AV → Bool
  | 0, _, _ => false
  | n + 1, a, b => Nat.beq a.tg b.tg && Nat.beq a.x b.x && Nat.beq a.y b.y && Nat.beq a.z b.z && Nat.beq a.c b.c && eqL (aveqN n) a.l b.l && eqL (aveqN n) a.r b.r
def aveq (a b : AV) : Bool := aveqN 6 a b
/-- the key that is there is the same in all its bits -/
def keySame (es : List (AV × AV × Nat)) (k : AV) : Option (Nat × AV × Nat) → Bool
  | some p => match lget es p.1 with | some e => aveq e.1 k && solid k | none => false
  | none => true
def mapOf (w : AW) (v : AV) : Option (List (AV × AV × Nat) × Nat) := bif v.is 22 then some ([], 0) else ifB (v.is 6) (seqO (w.bl.get v.x) fun x => match x with
  | .oth (.map es c) => some (es, c)
  | _ => none)
def lookR (z : AV) (ok : Bool) : Option (Nat × AV × Nat) → AV
  | some p => bif ok then .tup [p.2.1, .bool true] else p.2.1
  | none => bif ok then .tup [z, .bool false] else z
def lookC (P : Program) (t : TypeId) (ok : Bool) : Fn1 (AW → AV → AV → Option AV) := match P.underlying t with
  | some (.map kt e) => match zero P e with
    | some z => ⟨fun w m k => ifB (keyOk P kt k) (seqP (mapOf w m) fun es _ => seqO (findE P kt k es 0) fun r => some (lookR z ok r))⟩
    | none => ⟨fun _ _ _ => none⟩
  | _ => ⟨fun _ _ _ => none⟩
def setE (x : AV × AV × Nat) : List (AV × AV × Nat) → Nat → List (AV × AV × Nat)
  | [], _ => []
  | e :: l, i => bif Nat.beq i 0 then x :: l else e :: setE x l (i - 1)
def putM (w : AW) (b : Nat) (es : List (AV × AV × Nat)) (c : Nat) : AW := w.put b (.oth (.map es c))
def updR (w : AW) (b : Nat) (es : List (AV × AV × Nat)) (c : Nat) (k v : AV) : Option (Nat × AV × Nat) → AW
  | some p => putM w b (setE (k, v, p.2.2) es p.1) c
  | none => putM w b (es ++ [(k, v, c)]) (c + 1)
def updC (P : Program) (t : TypeId) : Fn1 (AW → AV → AV → AV → Option AW) := match P.underlying t with
  | some (.map kt _) => ⟨fun w m k v => ifB (m.is 6 && keyOk P kt k) (seqP (mapOf w m) fun es c => seqO (findE P kt k es 0) fun r => ifB (keySame es k r) (some (updR w m.x es c k v r)))⟩
  | _ => ⟨fun _ _ _ _ => none⟩
def bornOk : Option (Nat × AV × Nat) → Bool
  | some p => Nat.blt p.2.2 big
  | none => true
def entR (w : AW) (b : Nat) (es : List (AV × AV × Nat)) (c : Nat) (k z : AV) : Option (Nat × AV × Nat) → AV × AW
  | some p => (.tup [p.2.1, .int 129 p.2.2], putM w b (setE (k, p.2) es p.1) c)
  | none => (.tup [z, .int 129 c], putM w b (es ++ [(k, z, c)]) (c + 1))
def entC (P : Program) (t : TypeId) : Fn1 (AW → AV → AV → Option (AV × AW)) := match P.underlying t with
  | some (.map kt e) => match zero P e with
    | some z => ⟨fun w m k => ifB (m.is 6 && keyOk P kt k) (seqP (mapOf w m) fun es c => ifB (Nat.blt c big) (seqO (findE P kt k es 0) fun r => ifB (bornOk r && keySame es k r) (some (entR w m.x es c k z r))))⟩
    | none => ⟨fun _ _ _ => none⟩
  | _ => ⟨fun _ _ _ => none⟩
def putBorn (b : Nat) (v : AV) : List (AV × AV × Nat) → Option (List (AV × AV × Nat))
  | [] => none
  | e :: l => bif Nat.beq e.2.2 b then some ((e.1, v, b) :: l) else seqO (putBorn b v l) fun l => some (e :: l)
def entSt (w : AW) (m s v : AV) : Option AW := ifB (m.is 6 && (s.is 1 && Nat.beq s.x 129 && Nat.blt s.y big)) (seqP (mapOf w m) fun es c => seqO (putBorn s.y v es) fun es => some (putM w m.x es c))
/-- append -/
def lenV (v : AV) : Option Nat := bif v.is 5 then some v.z else bif v.is 21 then some 0 else ifB (v.is 2) (some v.x)
def srcV (w : AW) (z n : Nat) (v : AV) : Option (List AV) := bif v.is 5 then w.cellsAt v.x v.y (n * z) else bif v.is 21 then some [] else ifB (v.is 2 && (Nat.ble n v.x && Nat.beq z 1)) (some (str8 n v.y))
def apLo (w : AW) (b o n m z : Nat) (old new : List AV) (e gp sh f h : Nat) : Option (AV × AW) :=
  ifB (noFz f h (o + n * z) (m * z) && Nat.ble (old.length + new.length) big) (seqP (w.new (fun _ => .cells (ptOf (old ++ new) 0 .e) (old.length + new.length) e true gp (sh + o) (f - o) (h - o)) false) fun i w =>
    (fun at_ mates => some (.sl i 0 (n + m) 0, ⟨w.nx, kills i at_ (at_ + m * z) mates w.bl, w.gr.set gp (some (i :: mates))⟩)) (sh + o + n * z) (lO (w.gr.get gp)))
def apRow (w : AW) (e n : Nat) (cs : List AV) : Option (AV × AW) := seqP (w.row cs e true) fun i w => some (.sl i 0 n 0, w)
def apSl (w : AW) (e z : Nat) (v : AV) (m : Nat) (new : List AV) : Blk → Option (AV × AW)
  | .cells cs k e' lo gp sh f h => ifB (Nat.beq e e' && Nat.ble (v.y + v.z * z) k) (seqO (ptPart cs (v.z * z) v.y) fun old =>
      bif lo then apLo w v.x v.y v.z m z old new e gp sh f h
      else bif Nat.ble (v.z + m) v.c then seqO (w.writeL v.x (v.y + v.z * z) new) fun w => some (.sl v.x v.y (v.z + m) v.c, w)
      else apRow w e (v.z + m) (old ++ new))
  | .oth _ => none
def apV (w : AW) (e z : Nat) (v u : AV) (n m : Nat) : Option (AV × AW) := ifB (Nat.blt (n + m) 1000000000 && (v.is 5 || v.is 21)) (bif Nat.beq m 0 then some (v, w) else seqO (srcV w z m u) fun new =>
  bif v.is 21 then apRow w e m new else ifB (v.is 5) (seqO (w.bl.get v.x) fun x => apSl w e z v m new x))
/-- the zero value has as many cells as the type -/
def zlOk (P : Program) (e : TypeId) (z : Nat) : Bool := match (zero P e).bind AV.cells with | some l => Nat.beq l.length z | none => false
def apC (P : Program) (ts : List TypeId) : Fn1 (AW → AV → AV → Option (AV × AW)) := match ts with
  | [t, u] => match P.underlying t, P.underlying u with
    | some (.slice _), some (.int _) => ⟨fun _ _ _ => none⟩
    | some (.slice e), some _ => match sizeOf P e, bytesOf P e with
      | some (z + 1), some k => bif Nat.blt k 65536 && (Nat.blt 0 k && zlOk P e (z + 1)) then ⟨fun w v u => seqO (lenV v) fun n => seqO (lenV u) fun m => apV w e (z + 1) v u n m⟩ else ⟨fun _ _ _ => none⟩
      | _, _ => ⟨fun _ _ _ => none⟩
    | _, _ => ⟨fun _ _ _ => none⟩
  | _ => ⟨fun _ _ _ => none⟩
def minN (a b : Nat) : Nat := bif Nat.ble a b then a else b
def cpV (w : AW) (z : Nat) (d s : AV) (k : Nat) : Option (AV × AW) := seqO (srcV w z k s) fun cs => bif d.is 5 then seqO (w.writeL d.x d.y cs) fun w => some (.int 129 k, w) else ifB (d.is 21) (some (.int 129 k, w))
def cpC (P : Program) (ts : List TypeId) : Fn1 (AW → AV → AV → Option (AV × AW)) := match ts with
  | t :: _ => match P.underlying t with
    | some (.slice e) => match sizeOf P e with
      | some z => ⟨fun w d s => seqO (lenV d) fun n => seqO (lenV s) fun m => cpV w z d s (minN m n)⟩
      | none => ⟨fun _ _ _ => none⟩
    | _ => ⟨fun _ _ _ => none⟩
  | _ => ⟨fun _ _ _ => none⟩
def lenC (P : Program) (ts : List TypeId) : Fn1 (AW → AV → Option AV) := match ts with
  | t :: _ => match P.underlying t with
    | some (.array n _) => bif Nat.blt n big then ⟨fun _ _ => some (.int 129 n)⟩ else ⟨fun _ _ => none⟩
    | some .string => ⟨fun _ v => ifB (v.is 2) (some (.int 129 v.x))⟩
    | some (.slice _) => ⟨fun _ v => bif v.is 21 then some (.int 129 0) else ifB (v.is 5) (some (.int 129 v.z))⟩
    | some (.map _ _) => ⟨fun w v => seqP (mapOf w v) fun es _ => ifB (Nat.blt es.length big) (some (.int 129 es.length))⟩
    | _ => ⟨fun _ _ => none⟩
  | _ => ⟨fun _ _ => none⟩
def capV (w : AW) (v : AV) : Option AV := bif v.is 21 then some (.int 129 0) else ifB (v.is 5 && Nat.blt v.c big) (seqO (looseB w v.x) fun b => ifB (!b) (some (.int 129 v.c)))
def capC (P : Program) (ts : List TypeId) : Fn1 (AW → AV → Option AV) := match ts with
  | t :: _ => match P.underlying t with
    | some (.slice _) => ⟨capV⟩
    | _ => ⟨fun _ _ => none⟩
  | _ => ⟨fun _ _ => none⟩
def minL (k : IntKind) (a : Nat) : List AV → Option Nat
  | [] => some a
  | v :: l => ifB (v.is 1 && Nat.beq v.x (kc k)) (minL k (bif Nat.blt (cmpI k v.y) (cmpI k a) then v.y else a) l)
def maxL (k : IntKind) (a : Nat) : List AV → Option Nat
  | [] => some a
  | v :: l => ifB (v.is 1 && Nat.beq v.x (kc k)) (maxL k (bif Nat.blt (cmpI k a) (cmpI k v.y) then v.y else a) l)
def mmV (mx : Bool) (l : List AV) : Option AV := match l with
  | v :: l => ifB (v.is 1) (seqO (bif mx then maxL (kOf v.x) v.y l else minL (kOf v.x) v.y l) fun n => some (.int v.x n))
  | [] => none
def clrV (w : AW) (v : AV) : Option AW := bif v.is 6 then seqP (mapOf w v) fun _ c => some (putM w v.x [] c) else ifB (v.is 22 || v.is 21) (some w)
/-- every other name of the group is given up -/
def killAll (me : Nat) : List Nat → PT Blk → PT Blk
  | [], bl => bl
  | j :: l, bl => killAll me l (bif Nat.beq j me then bl else match bl.get j with | some (.cells ..) => bl.set j none | _ => bl)
def usB (P : Program) (w : AW) (b o n : Nat) (pe : TypeId) : Blk → Option (AV × AW)
  | .cells cs k e lo gp sh f h => ifB (Nat.beq e pe && (u8T P e && szOk P e) && Nat.ble (o + n) k) (seqO (ptPart cs n o) fun l => seqO (packA l) fun v =>
      some (.str n v, AW.put ⟨w.nx, killAll b (lO (w.gr.get gp)) w.bl, w.gr⟩ b (.cells cs k e lo gp sh 0 (bif Nat.ble h (o + n) then o + n else h))))
  | .oth _ => none
def usV (P : Program) (w : AW) (pe : TypeId) (p n : AV) : Option (AV × AW) := ifB (idxOk n && Nat.blt n.y big) (bif Nat.beq n.y 0 then (bif p.is 20 || p.is 4 then some (.str 0 0, w) else none) else ifB (p.is 4) (seqO (w.bl.get p.x) fun x => usB P w p.x p.y n.y pe x))
def a1 (l : List Operand) (k : Operand → Fn1 (Rec → St → R1)) : Fn1 (Rec → St → R1) := match l with | [x] => k x | _ => failOp
def a2 (l : List Operand) (k : Operand → Operand → Fn1 (Rec → St → R1)) : Fn1 (Rec → St → R1) := match l with | [x, y] => k x y | _ => failOp
def args (l : List Operand) : Fn1 (TM → List AV) := match l with
  | [] => ⟨fun _ => []⟩
  | x :: l => ⟨fun t => (fetch x).f t :: (args l).f t⟩
def bltC (P : Program) (b : Builtin) (ts : List TypeId) (d : Option Tmp) (l : List Operand) : Fn1 (Rec → St → R1) :=
  match b with
  | .append => a2 l fun x y => ⟨fun _ s => (finW d).f s ((apC P ts).f s.w ((fetch x).f s.tm) ((fetch y).f s.tm))⟩
  | .copy => a2 l fun x y => ⟨fun _ s => (finW d).f s ((cpC P ts).f s.w ((fetch x).f s.tm) ((fetch y).f s.tm))⟩
  | .len => a1 l fun x => ⟨fun _ s => (finO d).f s ((lenC P ts).f s.w ((fetch x).f s.tm))⟩
  | .cap => a1 l fun x => ⟨fun _ s => (finO d).f s ((capC P ts).f s.w ((fetch x).f s.tm))⟩
  | .clear => a1 l fun x => match ts with
    | t :: _ => match P.underlying t with
      | some _ => ⟨fun _ s => (finU d).f s (clrV s.w ((fetch x).f s.tm))⟩
      | none => failOp
    | _ => failOp
  | .min => ⟨fun _ s => (finO d).f s (mmV false ((args l).f s.tm))⟩
  | .max => ⟨fun _ s => (finO d).f s (mmV true ((args l).f s.tm))⟩
  | .complex => a2 l fun x y => ⟨fun _ s => (fun a b : AV => ifB (a.is 12 && b.is 12) ((fin d).f s (.cx a.x b.x))) ((fetch x).f s.tm) ((fetch y).f s.tm)⟩
  | .real => a1 l fun x => ⟨fun _ s => (fun a : AV => ifB (a.is 13) ((fin d).f s (.fl a.x))) ((fetch x).f s.tm)⟩
  | .imag => a1 l fun x => ⟨fun _ s => (fun a : AV => ifB (a.is 13) ((fin d).f s (.fl a.y))) ((fetch x).f s.tm)⟩
  | .unsafeSliceData => a1 l fun x => ⟨fun _ s => (fun a : AV => bif a.is 21 then (fin d).f s (.nl 20) else ifB (a.is 5 && !Nat.beq a.z 0) ((fin d).f s (.ptr a.x a.y))) ((fetch x).f s.tm)⟩
  | .unsafeString => a2 l fun x y => match ts with
    | t :: _ => match P.underlying t with
      | some (.pointer e) => ⟨fun _ s => (finW d).f s (usV P s.w e ((fetch x).f s.tm) ((fetch y).f s.tm))⟩
      | _ => failOp
    | _ => failOp
  | _ => failOp
end Go.Proofs.YtoffclpjhikjkaaGreat.Ev
namespace Go.Proofs.YtoffclpjhikjkaaGreat.Ev
open Go
inductive Ext where
  | noEscape
  | makeNoZero (e : TypeId)
  | overlaps
  | compare
  | mapClone
  | table (tb : List (List AV × AV))
/-- what was run before -/
def findT (l : List AV) : List (List AV × AV) → Option AV
  | [] => none
  | p :: tb => bif eqL (aveqN 3) p.1 l then some p.2 else findT l tb
def cmpS (n v m u : Nat) : Nat := bif less (bytes n v) (bytes m u) then 18446744073709551615 else bif less (bytes m u) (bytes n v) then 1 else 0
def extC (x : Ext) : Fn1 (List AV → AW → Option (AV × AW)) := match x with
  | .noEscape => ⟨fun l w => match l with | [x] => some (x, w) | _ => none⟩
  | .makeNoZero e => ⟨fun l w => match l with
    | [v] => ifB (v.is 1 && Nat.beq v.x 129 && Nat.blt v.y 1000000000) (seqP (w.row [] e true) fun b w => some (.sl b 0 v.y 0, w))
    | _ => none⟩
  | .overlaps => ⟨fun l w => match l with
    | [x, y] => seqO (lenV x) fun n => seqO (lenV y) fun m => ifB (Nat.beq n 0 || Nat.beq m 0) (some (.bool false, w))
    | _ => none⟩
  | .table tb => ⟨fun l w => seqO (findT l tb) fun v => some (v, w)⟩
  | .mapClone => ⟨fun l w => match l with
    | [x] => ifB (x.is 11) (match x.l with
      | [v] => ifB (v.is 6) (seqP (mapOf w v) fun es c => seqP (w.new (fun _ => .oth (.map es c)) false) fun b w => some (.ifc x.x (.map b), w))
      | _ => none)
    | _ => none⟩
  | .compare => ⟨fun l w => match l with
    | [x, y] => ifB (x.is 2 && y.is 2) (some (.int 129 (cmpS x.x x.y y.x y.y), w))
    | _ => none⟩
def setLp (w : AW) (l : Nat) (st : LoopState) (pd : Option Code → Option Code) (ok : LoopState → Bool) : Option AW := seqO (w.bl.get l) fun x => match x with
  | .oth (.loop q p fn tm nt ps as b d) => ifB (ok q) (some (w.put l (.oth (.loop st (pd p) fn tm nt ps as b d))))
  | _ => none
def isRdy : LoopState → Bool | .ready => true | _ => false
def isRD : LoopState → Bool | .ready | .done => true | _ => false
def pdOf (w : AW) (l : Nat) : Option (Option Code) := seqO (w.bl.get l) fun x => match x with
  | .oth (.loop _ pd ..) => some pd
  | _ => none
def withW (s : St) (w : AW) : St := ⟨s.tm, s.ds, w, s.rnd, s.df⟩
def endR (l : Nat) (e : Ex) (s : St) : Option (AV × AW) := match e with
  | .normal => seqO (setLp s.w l .ready (fun _ => none) fun _ => true) fun w => some (.bool true, w)
  | .ret => seqO (setLp s.w l .done (fun _ => some .ret) fun _ => true) fun w => some (.bool false, w)
  | .exit i => seqO (setLp s.w l .done (fun _ => some (.exit i)) fun _ => true) fun w => some (.bool false, w)
  | .goto i => seqO (setLp s.w l .done (fun _ => some (.goto i)) fun _ => true) fun w => some (.bool false, w)
def setPs : List Tmp → List AV → Nat → TM → TM
  | t :: ts, x :: xs, n, tm => setPs ts xs n (bif Nat.blt t n then (setp D t).f tm x else tm)
  | _, _, _, tm => tm
def runR (rec : Rec) (l : Nat) (args : List AV) (w : AW) : Option (AV × AW) := seqO (w.bl.get l) fun x => match x with
  | .oth (.loop _ _ _ tm nt ps as body _) => ifB (Nat.beq ps.size args.length) (seqP (rec.code nt as ⟨setPs ps.toList args nt tm, [], w, some l, false⟩) fun e s => match e with
    | .normal => seqO (setLp s.w l .busy (fun p => p) isRdy) fun w => seqP (rec.code nt body (withW s w)) fun e s => endR l e s
    | _ => none)
  | _ => none
/-- a call of a value -/
def callV (rec : Rec) (f : AV) (l : List AV) (w : AW) : Option (AV × AW) := bif f.is 8 then seqN f.x (fun g => rec.call g (f.l ++ l ++ f.r) false w) else ifB (f.is 7) (runR rec f.x l w)
def defR (s : St) (a : ADef) : Option St := match s.rnd with
  | none => some ⟨s.tm, a :: s.ds, s.w, s.rnd, s.df⟩
  | some l => seqO (s.w.bl.get l) fun x => match x with
    | .oth (.loop _ _ _ _ _ _ _ _ k) => seqO (s.w.bl.get k) fun x => match x with
      | .oth (.dfd (some ds)) => some (withW s (s.w.put k (.oth (.dfd (some (a :: ds))))))
      | _ => none
    | _ => none
def defV (d : Option Tmp) : Fn1 (St → AV → List AV → R1) := ⟨fun s f l => ifB (f.is 8) (seqO (defR s ⟨1, f.x, f.l ++ l ++ f.r⟩) fun s => (fin d).f s .undef)⟩
def callC (P : Program) (c : Call) (d : Option Tmp) : Fn1 (Rec → St → R1) := match c.callee with
  | .builtin b => bltC P b c.argTypes.toList d c.args.toList
  | .value (.func g) => ⟨fun rec s => (finW d).f s (rec.call g ((args c.args.toList).f s.tm) false s.w)⟩
  | .value f => ⟨fun rec s => (finW d).f s (callV rec ((fetch f).f s.tm) ((args c.args.toList).f s.tm) s.w)⟩
  | .invoke _ _ => failOp
def nilOk (v : AV) : Bool := v.is 4 || v.is 8 || v.is 7 || v.is 11
def boxC (P : Program) (d : Option Tmp) (e : TypeId) : Fn1 (St → AV → R1) := ⟨fun s v => seqO v.cells fun cs => (finW d).f s (seqP (s.w.row cs e false) fun b w => some (.ptr b 0, w))⟩
def argN (l : List (Nat × Operand)) : Fn1 (TM → List (Nat × AV)) := match l with
  | [] => ⟨fun _ => []⟩
  | x :: l => ⟨fun t => (x.1, (fetch x.2).f t) :: (argN l).f t⟩
def mkSl (d : Option Tmp) (n c : Nat) : Fn1 (St → Option (Nat × AW) → R1) := ⟨fun s o => (finW d).f s (seqP o fun b w => some (.sl b 0 n c, w))⟩
def bsC (P : Program) (d : Option Tmp) (e : TypeId) (len : Nat) (ps : List (Nat × Operand)) : Fn1 (Rec → St → R1) := match sizeOf P e, zero P e with
  | some (n + 1), some z => match z.cells, Nat.blt (len * (n + 1)) 16777216 with
    | some z, true => bif Nat.beq z.length (n + 1) then ⟨fun _ s => seqO (fill (fun i => some (i * (n + 1), n + 1)) ((argN ps).f s.tm) (repl z len)) fun cs => (mkSl d len len).f s (s.w.row cs e false)⟩ else failOp
    | _, _ => failOp
  | _, _ => failOp
def msV (w : AW) (e : TypeId) (z : List AV) (l c : AV) : Option (AV × AW) := ifB (idxOk l && idxOk c && Nat.ble l.y c.y && Nat.blt c.y 1000000) (seqP (w.row (repl z c.y) e false) fun b w => some (.sl b 0 l.y c.y, w))
def msC (P : Program) (d : Option Tmp) (e : TypeId) (l c : Operand) : Fn1 (Rec → St → R1) := match sizeOf P e, bytesOf P e, (zero P e).bind AV.cells with
  | some (n + 1), some k, some z => bif Nat.blt k 65536 && Nat.beq z.length (n + 1) then ⟨fun _ s => (finW d).f s (msV s.w e z ((fetch l).f s.tm) ((fetch c).f s.tm))⟩ else failOp
  | _, _, _ => failOp
def buildC (P : Program) (t : TypeId) : Fn1 (List (Nat × AV) → Option AV) := match (zero P t).bind AV.cells, P.underlying t with
  | some z, some (.struct fields) => match places P fields.toList with
    | some pl => ⟨fun ps => seqO (fill (lget pl ·) ps z) fun l => some (.agg l)⟩
    | none => ⟨fun _ => none⟩
  | some z, some (.array _ e) => match sizeOf P e with
    | some n => ⟨fun ps => seqO (fill (fun i => some (i * n, n)) ps z) fun l => some (.agg l)⟩
    | none => ⟨fun _ => none⟩
  | _, _ => ⟨fun _ => none⟩
def rgV (w : AW) (v : AV) : Option (AV × AW) := bif v.is 22 then seqP (w.new (fun _ => .oth (.mit none 0 [] 0)) false) fun b w => some (.ptr b 0, w) else
  ifB (v.is 6) (seqP (mapOf w v) fun _ c => seqP (w.new (fun _ => .oth (.mit (some v.x) c [] c)) false) fun b w => some (.ptr b 0, w))
def memN (k : Nat) : List Nat → Bool
  | [] => false
  | x :: l => Nat.beq k x || memN k l
def unseen (seen : List Nat) : List (AV × AV × Nat) → List (AV × AV × Nat)
  | [] => []
  | e :: l => bif memN e.2.2 seen then unseen seen l else e :: unseen seen l
def nx2 (w : AW) (r m since : Nat) (seen : List Nat) (c : Nat) : List (AV × AV × Nat) → Option (AV × AW)
  | [] => some (.tup [.bool false], w)
  | [e] => ifB (Nat.blt e.2.2 since) (some (.tup [.bool true, e.1, e.2.1], w.put r (.oth (.mit (some m) since (seen ++ [e.2.2]) c))))
  | _ => none
def anyLt (k : Nat) : List (AV × AV × Nat) → Bool
  | [] => false
  | e :: l => Nat.blt e.2.2 k || anyLt k l
def nx1 (w : AW) (r m since : Nat) (seen : List Nat) (last : Nat) : Blk → Option (AV × AW)
  | .oth (.map es c) => ifB (seen.isEmpty || es.isEmpty || anyLt last es) (nx2 w r m since seen c (unseen seen es))
  | _ => none
def nx0 (w : AW) (r : Nat) : Blk → Option (AV × AW)
  | .oth (.mit none _ _ _) => some (.tup [.bool false], w)
  | .oth (.mit (some m) since seen last) => seqO (w.bl.get m) fun x => nx1 w r m since seen last x
  | _ => none
def nxV (w : AW) (v : AV) : Option (AV × AW) := ifB (v.is 4 && Nat.beq v.y 0) (seqO (w.bl.get v.x) fun x => nx0 w v.x x)
def compOp (P : Program) (o : Oper) : Fn1 (Rec → St → R1) :=
  match o.op with
  | .move x => ⟨fun _ s => (fin o.dst).f s ((fetch x).f s.tm)⟩
  | .assign x => ⟨fun _ s => (fin o.dst).f s ((fetch x).f s.tm)⟩
  | .pick c a b => ⟨fun _ s => (fun v : AV => ifB (v.is 3) (bif Nat.beq v.x 1 then (fin o.dst).f s ((fetch a).f s.tm) else (fin o.dst).f s ((fetch b).f s.tm))) ((fetch c).f s.tm)⟩
  | .alloc e => match zero P e with
    | some z => ⟨fun _ s => (boxC P o.dst e).f s z⟩
    | none => failOp
  | .box e x => ⟨fun _ s => (boxC P o.dst e).f s ((fetch x).f s.tm)⟩
  | .build t ps => ⟨fun _ s => (finO o.dst).f s ((buildC P t).f ((argN ps.toList).f s.tm))⟩
  | .buildSlice t len ps => match P.underlying t with
    | some (.slice e) => bsC P o.dst e len ps.toList
    | _ => failOp
  | .load t a => ⟨fun _ s => (fun v : AV => ifB (v.is 4) ((finO o.dst).f s ((loadC P t).f s.w v.x v.y))) ((fetch a).f s.tm)⟩
  | .store t a x => ⟨fun _ s => (fun v : AV => ifB (v.is 4) ((finU o.dst).f s ((storeC P t).f s.w v.x v.y ((fetch x).f s.tm)))) ((fetch a).f s.tm)⟩
  | .nilCheck x => ⟨fun _ s => (fun v : AV => ifB (nilOk v) ((fin o.dst).f s v)) ((fetch x).f s.tm)⟩
  | .binOp op t x y _ => ⟨fun _ s => (binC0 P op t (isCn x || isCn y) o.dst).f s ((fetch x).f s.tm) ((fetch y).f s.tm)⟩
  | .unOp op t x => ⟨fun _ s => (unC P op t o.dst).f s ((fetch x).f s.tm)⟩
  | .convert a b x => ⟨fun _ s => (cvC P a b o.dst).f s ((fetch x).f s.tm)⟩
  | .makeInterface t x => match P.underlying t with
    | some (.interface _) => failOp
    | some _ => ⟨fun _ s => (fin o.dst).f s (.ifc t ((fetch x).f s.tm))⟩
    | none => failOp
  | .makeFunc fn a b => match fn with
    | .func g => ⟨fun _ s => (fin o.dst).f s (.fn g ((args a.toList).f s.tm) ((args b.toList).f s.tm))⟩
    | _ => failOp
  | .makeMap t r => match r with
    | none => ⟨fun _ s => (finW o.dst).f s (seqP (s.w.new (fun _ => .oth (.map [] 0)) false) fun b w => some (.map b, w))⟩
    | some h => match P.underlying t with
      | some (.map _ _) => ⟨fun _ s => (fun v : AV => ifB (v.is 1) ((finW o.dst).f s (seqP (s.w.new (fun _ => .oth (.map [] 0)) false) fun b w => some (.map b, w)))) ((fetch h).f s.tm)⟩
      | _ => failOp
  | .makeSlice t l c => match P.underlying t with
    | some (.slice e) => msC P o.dst e l c
    | _ => failOp
  | .slice t x lo hi mx => match mx with
    | none => ⟨fun _ s => (slC P t o.dst lo hi).f s ((fetch x).f s.tm)⟩
    | some _ => failOp
  | .fieldAddr t x f => match P.underlying t with
    | some (.struct fs) => match fs[f]? with
      | some fd => match sizeOf P fd.type with
        | some (_ + 1) => ⟨fun _ s => (fun v : AV => ifB (v.is 4) (seqN (v.y + fd.offset) fun n => (fin o.dst).f s (.ptr v.x n))) ((fetch x).f s.tm)⟩
        | _ => failOp
      | none => failOp
    | _ => failOp
  | .field t x f => match P.underlying t with
    | some (.struct fs) => match fs[f]? with
      | some fd => ⟨fun _ s => (fun v : AV => ifB (v.is 10) ((finO o.dst).f s (part P fd.type v.l fd.offset))) ((fetch x).f s.tm)⟩
      | none => failOp
    | _ => failOp
  | .indexAddr t x i => match P.underlying t with
    | some (.array n e) => match sizeOf P e with
      | some z => ⟨fun _ s => (fun v i : AV => ifB (v.is 4 && idxOk i && Nat.blt i.y n && Nat.blt n big) (seqN (v.y + i.y * z) fun n => (fin o.dst).f s (.ptr v.x n))) ((fetch x).f s.tm) ((fetch i).f s.tm)⟩
      | none => failOp
    | some (.slice e) => match sizeOf P e with
      | some z => ⟨fun _ s => (fun v i : AV => ifB (v.is 5 && idxOk i && Nat.blt i.y v.z) (seqN (v.y + i.y * z) fun n => (fin o.dst).f s (.ptr v.x n))) ((fetch x).f s.tm) ((fetch i).f s.tm)⟩
      | none => failOp
    | _ => failOp
  | .index t x i => match P.underlying t with
    | some (.array n e) => match sizeOf P e with
      | some z => ⟨fun _ s => (fun v i : AV => ifB (v.is 10 && idxOk i && Nat.blt i.y n && Nat.blt n big) ((finO o.dst).f s (part P e v.l (i.y * z)))) ((fetch x).f s.tm) ((fetch i).f s.tm)⟩
      | none => failOp
    | some .string => ⟨fun _ s => (fun v i : AV => ifB (v.is 2 && idxOk i && Nat.blt i.y v.x) ((finI o.dst 16).f s (v.y / 256 ^ i.y % 256))) ((fetch x).f s.tm) ((fetch i).f s.tm)⟩
    | _ => failOp
  | .lookup t x k ok => ⟨fun _ s => (finO o.dst).f s ((lookC P t ok).f s.w ((fetch x).f s.tm) ((fetch k).f s.tm))⟩
  | .mapUpdate t m k x => ⟨fun _ s => (finU o.dst).f s ((updC P t).f s.w ((fetch m).f s.tm) ((fetch k).f s.tm) ((fetch x).f s.tm))⟩
  | .mapEntry t m k => ⟨fun _ s => (finW o.dst).f s ((entC P t).f s.w ((fetch m).f s.tm) ((fetch k).f s.tm))⟩
  | .entryStore _ m k x => ⟨fun _ s => (finU o.dst).f s (entSt s.w ((fetch m).f s.tm) ((fetch k).f s.tm) ((fetch x).f s.tm))⟩
  | .range t x => match P.underlying t with
    | some (.map _ _) => ⟨fun _ s => (finW o.dst).f s (rgV s.w ((fetch x).f s.tm))⟩
    | _ => failOp
  | .next it isS => bif isS then failOp else ⟨fun _ s => (finW o.dst).f s (nxV s.w ((fetch it).f s.tm))⟩
  | .extract t i => ⟨fun _ s => (fun v : AV => ifB (v.is 9) ((finO o.dst).f s (lget v.l i))) ((fetch t).f s.tm)⟩
  | .typeAssert x _ t ok => match P.underlying t with
    | some (.interface _) => failOp
    | some _ => bif ok then failOp else ⟨fun _ s => (fun v : AV => ifB (v.is 11 && Nat.beq v.x t) (match v.l with | [u] => (fin o.dst).f s u | _ => none)) ((fetch x).f s.tm)⟩
    | none => failOp
  | .call c => callC P c o.dst
  | _ => failOp
/-- is it wanted; none: it is not known -/
def guardK (nt : Nat) (ops : List Oper) (o : Oper) : Fn1 (TM → Option Bool) := match o.guard with
  | none => ⟨fun _ => some true⟩
  | some (j, want) => match (lget ops j).bind (·.dst) with
    | some d => bif Nat.blt d nt then ⟨fun t => (fun a : AV => bif a.is 3 then some (Nat.beq a.x (bif want then 1 else 0)) else bif a.is 0 then none else some false) ((getp D d).f t)⟩ else ⟨fun _ => none⟩
    | none => ⟨fun _ => none⟩
def tOk (nt : Nat) : Operand → Bool
  | .tmp t => Nat.blt t nt
  | _ => true
def dOk (nt : Nat) : Option Tmp → Bool
  | some t => Nat.blt t nt
  | none => true
/-- only temporaries that there are -/
def opOk (nt : Nat) (o : Oper) : Bool := dOk nt o.dst && o.op.operands.toList.all (tOk nt)
def opC (P : Program) (nt : Nat) (o : Oper) : Fn1 (Rec → St → R1) := bif opOk nt o then compOp P o else failOp
def opG (P : Program) (nt : Nat) (ops : List Oper) (o : Oper) : Fn1 (Rec → St → R1) := match o.guard with
  | none => opC P nt o
  | some _ => bif dOk nt o.dst then ⟨fun rec s => seqO ((guardK nt ops o).f s.tm) fun b => bif b then (opC P nt o).f rec s else (fin o.dst).f s .undef⟩ else failOp
def compOps (P : Program) (nt : Nat) (ops : List Oper) : List Oper → Fn1 (Rec → St → R1)
  | [] => ⟨fun _ s => some s⟩
  | o :: l => ⟨fun rec s => seqO ((opG P nt ops o).f rec s) fun s => (compOps P nt ops l).f rec s⟩
/-- regions that draw: an order, and what is looked at again behind each act -/
def quiet : Op → Bool
  | .move _ | .assign _ | .pick .. | .alloc _ | .box .. | .build .. | .buildSlice .. | .load .. | .nilCheck _ | .binOp .. | .unOp .. | .convert .. | .makeInterface .. | .makeFunc ..
  | .makeMap .. | .makeSlice .. | .slice .. | .fieldAddr .. | .field .. | .indexAddr .. | .index .. | .lookup .. | .extract .. => true
  | .call c => match c.callee with
    | .builtin b => match b with | .len | .min | .max | .cap | .complex | .real | .imag => true | _ => false
    | _ => false
  | _ => false
def lookK : Op → Bool
  | .alloc _ | .box .. | .buildSlice .. | .makeMap .. | .makeSlice .. => false
  | op => quiet op
/-- all ahead of which an operation waits -/
def union (l : List Nat) : List Nat → List Nat
  | [] => l
  | x :: m => bif memN x l then union l m else union (x :: l) m
def ancOf (as : List (List Nat)) : List Edge → List Nat
  | [] => []
  | e :: l => bif Region.binds .any e then union (e.on :: (match lget as e.on with | some a => a | none => [])) (ancOf as l) else ancOf as l
def ancs : List Oper → List (List Nat) → List (List Nat)
  | [], as => as
  | o :: l, as => ancs l (as ++ [ancOf as o.after.toList])
def allIn (m : List Nat) : List Nat → Bool
  | [] => true
  | x :: l => memN x m && allIn m l
def depM : List Edge → Nat → Nat
  | [], m => m
  | e :: l, m => bif Region.binds .any e then seqN (Nat.lor m (Nat.shiftLeft 1 e.on)) (depM l) else depM l m
/-- ready: its bit is not done, and all ahead of it is; first the quiet ones -/
def pickQ (done : Nat) : List (Nat × Nat × Bool) → Option Nat → Option Nat
  | [], r => r
  | p :: l, r => bif Nat.beq (Nat.land (Nat.shiftRight done p.1) 1) 1 || !Nat.beq (Nat.land p.2.1 done) p.2.1 then pickQ done l r else bif p.2.2 then some p.1 else pickQ done l (match r with | none => some p.1 | some r => some r)
def order (qs : List (Nat × Nat × Bool)) : Nat → Nat → List Nat → Option (List Nat)
  | 0, _, acc => some acc.reverse
  | n + 1, done, acc => match pickQ done qs none with
    | some i => seqN (Nat.lor done (Nat.shiftLeft 1 i)) fun d => order qs n d (i :: acc)
    | none => none
def qsOf : List Oper → Nat → List (Nat × Nat × Bool)
  | [], _ => []
  | o :: l, i => seqN (depM o.after.toList 0) (fun m => (i, m, quiet o.op) :: qsOf l (i + 1))
/-- what is looked at again behind number j: readers ahead of it that it does not wait for -/
def again (ops : List Oper) (as : List (List Nat)) (j : Nat) : List Nat → List Nat
  | [] => []
  | i :: l => bif (match lget ops i with | some o => lookK o.op | none => false) && !memN i (match lget as j with | some a => a | none => []) then i :: again ops as j l else again ops as j l
def bigW (s : St) : St := ⟨s.tm, s.ds, ⟨big, s.w.bl, s.w.gr⟩, s.rnd, s.df⟩
def look2 (P : Program) (nt : Nat) (ops : List Oper) (o : Oper) (rec : Rec) (s : St) : R1 := match o.dst with
  | none => none
  | some d => seqO ((opG P nt ops o).f rec (bigW s)) fun s2 => ifB (aveq ((getp D d).f s2.tm) ((getp D d).f s.tm)) (some s)
def looks (P : Program) (nt : Nat) (ops : List Oper) : List Nat → Fn1 (Rec → St → R1)
  | [] => ⟨fun _ s => some s⟩
  | i :: l => match lget ops i with
    | some o => ⟨fun rec s => seqO (look2 P nt ops o rec s) fun s => (looks P nt ops l).f rec s⟩
    | none => failOp
/-- each temporary is written once, and read behind its writing only -/
def wrOf (t : Nat) : List Oper → Nat → Option Nat
  | [], _ => none
  | o :: l, i => match o.dst with
    | some d => bif Nat.beq d t then some i else wrOf t l (i + 1)
    | none => wrOf t l (i + 1)
def onceT : List Oper → Bool
  | [] => true
  | o :: l => (match o.dst with | some d => (match wrOf d l 0 with | none => true | some _ => false) | none => true) && onceT l
def ancA (as : List (List Nat)) (k : Nat) : List Nat := match lget as k with | some a => a | none => []
def readOk (ops : List Oper) (as : List (List Nat)) (i : Nat) : List Operand → Bool
  | [] => true
  | .tmp t :: l => (match wrOf t ops 0 with | none => true | some k => memN k (ancA as i) || memN i (ancA as k)) && readOk ops as i l
  | _ :: l => readOk ops as i l
def gdOk (a : List Nat) (o : Oper) : Bool := match o.guard with
  | none => true
  | some (j, _) => memN j a
def readsOk (ops : List Oper) (as : List (List Nat)) : List Oper → Nat → Bool
  | [], _ => true
  | o :: l, i => readOk ops as i o.op.operands.toList && gdOk (ancA as i) o && readsOk ops as l (i + 1)
/-- what is looked at again still reads what it read -/
def stillO (ops : List Oper) (a done : List Nat) : List Operand → Bool
  | [] => true
  | .tmp t :: l => (match wrOf t ops 0 with | none => true | some k => memN k a || !memN k done) && stillO ops a done l
  | _ :: l => stillO ops a done l
def stillA (ops : List Oper) (as : List (List Nat)) (done : List Nat) : List Nat → Bool
  | [] => true
  | i :: l => (match lget ops i with | some o => stillO ops (ancA as i) done o.op.operands.toList | none => false) && stillA ops as done l
def depIn (done : List Nat) (o : Oper) : Bool := o.after.toList.all fun e => !Region.binds .any e || memN e.on done
/-- no other one than number i may come up -/
def onlyIs (done : List Nat) (i : Nat) : List Oper → Nat → Bool
  | [], _ => true
  | o :: l, k => (Nat.beq k i || (memN k done || !depIn done o)) && onlyIs done i l (k + 1)
def dstV (o : Oper) : Fn1 (TM → AV) := match o.dst with | some d => getp D d | none => ⟨fun _ => .undef⟩
def drC (P : Program) (nt : Nat) (ops : List Oper) (as : List (List Nat)) : List Nat → List Nat → Fn1 (Rec → St → R1)
  | [], done => bif allIn done (upTo ops.length) then ⟨fun _ s => some s⟩ else failOp
  | i :: l, done => match lget ops i with
    | some o => bif memN i done || !depIn done o then failOp else
      bif quiet o.op then (bif lookK o.op then ⟨fun rec s => seqO ((opG P nt ops o).f rec (bigW s)) fun s2 => (drC P nt ops as l (i :: done)).f rec ⟨(putK o.dst).f s.tm ((dstV o).f s2.tm), s.ds, s.w, s.rnd, s.df⟩⟩ else ⟨fun rec s => seqO ((opG P nt ops o).f rec s) fun s => (drC P nt ops as l (i :: done)).f rec s⟩)
      else bif onlyIs done i ops 0 && stillA ops as done (again ops as i done) then ⟨fun rec s => seqO ((opG P nt ops o).f rec s) fun s => seqO ((looks P nt ops (again ops as i done)).f rec s) fun s => (drC P nt ops as l (i :: done)).f rec s⟩ else failOp
    | none => failOp
def drawC (P : Program) (nt : Nat) (ops : List Oper) : Fn1 (Rec → St → R1) := (fun as => match (bif onceT ops && readsOk ops as ops 0 then order (qsOf ops 0) ops.length 0 [] else none) with
  | some l => drC P nt ops as l []
  | none => failOp) (ancs ops [])
def loopN (body : St → R2) (n : Nat) : St → R2 := Nat.rec (fun _ => none) (fun _ ih s => seqP (body s) fun e s => match e with
  | .normal => ih s
  | .exit i => some (.exit i, s)
  | .goto i => some (.goto i, s)
  | .ret => some (.ret, s)) n
def scopeN (rec : Rec) (nt : Nat) (b : Code) (n : Nat) : R2 → R2 := Nat.rec (fun _ => none) (fun _ ih r => seqP r fun e s => match e with
  | .goto i => match findLabel b i with
    | some c => ih (rec.code nt c s)
    | none => some (.goto i, s)
  | .normal => some (.normal, s)
  | .exit i => some (.exit i, s)
  | .ret => some (.ret, s)) n
def rfW (s : St) : Option (Nat × St) := match s.rnd with
  | none => seqP (s.w.new (fun _ => .oth (.dfd (some []))) false) fun r w => some (r, ⟨s.tm, ⟨0, r, []⟩ :: s.ds, w, s.rnd, s.df⟩)
  | some l => seqO (s.w.bl.get l) fun x => match x with
    | .oth (.loop _ _ _ _ _ _ _ _ d) => some (d, s)
    | _ => none
def pdE (s : St) : Option Code → R2
  | none => some (.normal, s)
  | some .ret => some (.ret, s)
  | some (.exit i) => some (.exit i, s)
  | some (.goto i) => some (.goto i, s)
  | some _ => none
def hasB (P : Program) (g : FuncId) : Bool := match P.funcs[g]? with | some fn => fn.body.isSome | none => false
/-- an iterator, called -/
def callI (P : Program) (rec : Rec) (f : AV) (l : Nat) (w : AW) : Option (AV × AW) := ifB (f.is 8) (seqN f.x fun g => ifB (hasB P g) (rec.call g (f.l ++ [.yield l] ++ f.r) false w))
def comp (P : Program) (nt : Nat) : Code → Fn1 (Rec → St → R2)
  | .skip => ⟨fun _ s => some (.normal, s)⟩
  | .label _ => ⟨fun _ s => some (.normal, s)⟩
  | .ret => ⟨fun _ s => some (.ret, s)⟩
  | .exit i => ⟨fun _ s => some (.exit i, s)⟩
  | .goto i => ⟨fun _ s => some (.goto i, s)⟩
  | .seq a b => ⟨fun rec s => seqP ((comp P nt a).f rec s) fun e s => match e with
    | .normal => (comp P nt b).f rec s
    | .exit i => some (.exit i, s)
    | .goto i => some (.goto i, s)
    | .ret => some (.ret, s)⟩
  | .cond c a b => bif !tOk nt c then ⟨fun _ _ => none⟩ else ⟨fun rec s => (fun v : AV => ifB (v.is 3) (bif Nat.beq v.x 1 then (comp P nt a).f rec s else (comp P nt b).f rec s)) ((fetch c).f s.tm)⟩
  | .block i b => ⟨fun rec s => seqP ((comp P nt b).f rec s) fun e s => match e with
    | .normal => some (.normal, s)
    | .exit j => bif Nat.beq j i then some (.normal, s) else some (.exit j, s)
    | .goto i => some (.goto i, s)
    | .ret => some (.ret, s)⟩
  | .loop b => ⟨fun rec s => loopN ((comp P nt b).f rec) 1000000 s⟩
  | .scope b => ⟨fun rec s => scopeN rec nt b 1000000 ((comp P nt b).f rec s)⟩
  | .region _ ops dr => bif dr then ⟨fun rec s => seqO ((drawC P nt ops.toList).f rec s) fun s => some (.normal, s)⟩ else ⟨fun rec s => seqO ((compOps P nt ops.toList ops.toList).f rec s) fun s => some (.normal, s)⟩
  | .rangeFunc g ps as body => bif !tOk nt g then ⟨fun _ _ => none⟩ else ⟨fun rec s => seqP (rfW s) fun d s => seqP (s.w.new (fun _ => .oth (.loop .ready none 0 s.tm nt ps as body d)) false) fun l w =>
      seqP (callI P rec ((fetch g).f s.tm) l w) fun _ w => seqO (pdOf w l) fun pd => seqO (setLp w l .exhausted (fun p => p) isRD) fun w => pdE (withW s w) pd⟩
  | .refuse _ => ⟨fun _ _ => none⟩
def setAll : Nat → List AV → TM → TM
  | _, [], t => t
  | i, x :: l, t => setAll (i + 1) l ((setp D i).f t x)
def resC (P : Program) : List ResultVar → Fn1 (TM → AW → Option (List AV))
  | [] => ⟨fun _ _ => some []⟩
  | .tmp t :: l => ⟨fun tm w => seqO ((resC P l).f tm w) fun r => some ((getp D t).f tm :: r)⟩
  | .cell a t :: l => ⟨fun tm w => (fun v : AV => ifB (v.is 4) (seqO ((loadC P t).f w v.x v.y) fun x => seqO ((resC P l).f tm w) fun r => some (x :: r))) ((getp D a).f tm)⟩
def tupV : List AV → AV
  | [] => .undef
  | [x] => x
  | l => .tup l
/-- marks of ranges over functions, none of whose rounds has deferred a call -/
def unwN : List ADef → AW → Option AW
  | [], w => some w
  | a :: ds, w => ifB (Nat.beq a.k 0) (seqO (w.bl.get a.x) fun x => match x with
      | .oth (.dfd (some [])) => unwN ds (w.put a.x (.oth (.dfd none)))
      | _ => none)
def endE : Ex → Bool
  | .normal => true
  | .ret => true
  | _ => false
def rOk (nt : Nat) : ResultVar → Bool
  | .tmp t => Nat.blt t nt
  | .cell a _ => Nat.blt a nt
def compF (P : Program) (X : FuncId → Option Ext) (f : FuncId) : Fn1 (Rec → List AV → Bool → AW → Option (AV × AW)) := match X f with
  | some x => ⟨fun _ args df w => ifB (!df) ((extC x).f args w)⟩
  | none => match P.funcs[f]? with
    | some fn => match fn.body with
      | some c => bif Nat.ble fn.ntmps 256 && fn.results.toList.all (rOk fn.ntmps) && !(fn.name == "runtime.NumGoroutine") then
          ⟨fun rec args df w => ifB (Nat.ble args.length fn.ntmps) (seqP ((comp P fn.ntmps c).f rec ⟨setAll 0 args (Tr.all .undef D), [], w, none, df⟩) fun e s => ifB (endE e) (seqO (unwN s.ds s.w) fun w => seqO ((resC P fn.results.toList).f s.tm w) fun l => some (tupV l, w)))⟩
        else ⟨fun _ _ _ _ => none⟩
      | none => ⟨fun _ _ _ _ => none⟩
    | none => ⟨fun _ _ _ _ => none⟩
def recN (P : Program) (X : FuncId → Option Ext) (n : Nat) : Rec := Nat.rec ⟨fun _ _ _ _ => none, fun _ _ _ => none⟩ (fun _ ih => ⟨fun f args df w => (compF P X f).f ih args df w, fun nt c s => (comp P nt c).f ih s⟩) n
/-- what a run came to -/
def resIs (v : AV) : Option (AV × AW) → Bool
  | some (u, _) => aveq u v
  | none => false
end Go.Proofs.YtoffclpjhikjkaaGreat.Ev
