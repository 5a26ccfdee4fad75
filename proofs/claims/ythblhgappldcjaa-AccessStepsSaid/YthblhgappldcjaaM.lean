/- The plain state machines of the layers mem, word, layout, slot, place, alloc, drop, access and move: what the program's functions compute, as Lean functions on numbers and lists. No program in sight. -/

namespace Go.Proofs.Ythblhgappldcjaa.Fl

structure Cfg where
  threads : Int
  slots : Int
  chunks : Int
  words : Int
  gens : Int
  sparse : Int
  tries : Int
deriving DecidableEq, Repr

structure Touch where
  addr : Int
  who : Int
  changed : Bool
deriving DecidableEq, Repr

structure Mem where
  w : List Nat
  at_ : List Int
  steps : Int
  who : Int
  last : Touch
deriving DecidableEq, Repr

structure Hd where
  slot : Int
  gen : Int
deriving DecidableEq, Repr

structure Sl where
  state : Int
  addr : Int
  gen : Int
  ver : Int
deriving DecidableEq, Repr

structure Ck where
  state : Int
  cls : Int
  used : Int
  stamp : Int
deriving DecidableEq, Repr

structure Hed where
  kind : Int
  size : Int
  slot : Int
  gen : Int
  own : Bool
deriving DecidableEq, Repr

structure Cl where
  value : Int
  frozen : Bool
  ver : Int
deriving DecidableEq, Repr

structure Done where
  e : Int
  handle : Nat
  value : Int
  stamp : Int
deriving DecidableEq, Repr

structure Spot where
  addr : Int
  chunk : Int
deriving DecidableEq, Repr

/-! word -/

def fit (n most : Int) : Nat := (min (max n 0) most).toNat

def putHandle (h : Hd) : Nat := fit h.slot 65535 + fit h.gen 65535 * 65536

def handle (n : Nat) : Hd × Bool :=
  if n / 4294967296 ≠ 0 ∨ n / 65536 = 0 then (⟨0, 0⟩, false) else (⟨(n % 65536 : Nat), (n / 65536 : Nat)⟩, true)

def putSlot (s : Sl) : Nat := fit s.state 7 + fit s.addr 1048575 * 8 + fit s.gen 65535 * 8388608 + fit s.ver 4194303 * 549755813888

def slotOf (w : Nat) : Sl := ⟨(w % 8 : Nat), (w / 8 % 1048576 : Nat), (w / 8388608 % 65536 : Nat), (w / 549755813888 % 4194304 : Nat)⟩

def putChunk (c : Ck) : Nat := fit c.state 3 + fit c.cls 63 * 4 + fit c.used 1048575 * 256 + fit c.stamp 68719476735 * 268435456

def chunkOf (w : Nat) : Ck := ⟨(w % 4 : Nat), (w / 4 % 64 : Nat), (w / 256 % 1048576 : Nat), (w / 268435456 % 68719476736 : Nat)⟩

def putHead (h : Hed) : Nat :=
  fit h.kind 3 + fit h.size 65535 * 4 + fit h.slot 65535 * 262144 + fit h.gen 65535 * 17179869184 + (if h.own then 1125899906842624 else 0)

def headOf (w : Nat) : Hed := ⟨(w % 4 : Nat), (w / 4 % 65536 : Nat), (w / 262144 % 65536 : Nat), (w / 17179869184 % 65536 : Nat), decide (w / 1125899906842624 % 2 = 1)⟩

def putCell (c : Cl) : Nat := fit c.value 1099511627775 + (if c.frozen then 9223372036854775808 + fit c.ver 4194303 * 1099511627776 else 0)

def cellOf (w : Nat) : Cl :=
  ⟨(w % 1099511627776 : Nat), decide (w / 9223372036854775808 = 1), if w / 9223372036854775808 = 1 then (w / 1099511627776 % 4194304 : Nat) else 0⟩

def putTop (slot count : Int) : Nat := fit (min slot 65535 + 1) 65536 + fit count 68719476735 * 131072

def topOf (w : Nat) : Int × Int := ((w % 131072 : Nat) - 1, (w / 131072 % 68719476736 : Nat))

/-! layout -/

def pSlot (c : Cfg) (slot : Int) : Int := 6 + c.threads + 2 * slot
def pChunk (c : Cfg) (k : Int) : Int := 6 + c.threads + 2 * c.slots + 3 * k
def pBase (c : Cfg) (k : Int) : Int := 6 + c.threads + 2 * c.slots + 3 * c.chunks + c.words * k
def pLen (c : Cfg) : Int := pBase c c.chunks
def pOf (c : Cfg) (a : Int) : Int := if a < pBase c 0 ∨ a ≥ pLen c then -1 else (a - pBase c 0) / c.words
def pOpen (k : Int) : Int := 2 + k

def cls (size : Int) : Int :=
  if size < 1 then -1 else if size ≤ 2 then 0 else if size ≤ 4 then 1 else if size ≤ 8 then 2 else if size ≤ 16 then 3 else -1

def room (k : Int) : Int := if k < 0 then 0 else 1 + 2 * 2 ^ k.toNat

/-! memory: what somebody does in an arena -/

def inb (m : Mem) (a : Int) : Prop := 0 ≤ a ∧ a < m.w.length
instance (m : Mem) (a : Int) : Decidable (inb m a) := by unfold inb; exact inferInstance

def Mem.peek (m : Mem) (a : Int) : Nat := if inb m a then m.w.getD a.toNat 0 else 0
def Mem.wh (m : Mem) (a : Int) : Int := if inb m a then m.at_.getD a.toNat 0 else 0

def Mem.setw (m : Mem) (a : Int) (v : Nat) : Mem :=
  { m with w := m.w.set a.toNat v
           at_ := if m.w.getD a.toNat 0 = v then m.at_ else m.at_.set a.toNat m.steps
           last := { m.last with changed := decide (m.w.getD a.toNat 0 ≠ v) } }

def Mem.stp (m : Mem) (who a : Int) : Mem := { m with who := who, steps := m.steps + 1, last := ⟨a, who, false⟩ }

def Mem.load (m : Mem) (who a : Int) : Nat × Mem :=
  if inb m a then (m.w.getD a.toNat 0, m.stp who a) else (0, { m with who := who })

def Mem.store (m : Mem) (who a : Int) (v : Nat) : Mem :=
  if inb m a then (m.stp who a).setw a v else { m with who := who }

def Mem.cas (m : Mem) (who a : Int) (old v : Nat) : Bool × Mem :=
  if inb m a then (if m.w.getD a.toNat 0 = old then (true, (m.stp who a).setw a v) else (false, m.stp who a)) else (false, { m with who := who })

/-- A number added to a word of 64 bits. -/
def u64 (d : Int) : Nat := (d % 18446744073709551616).toNat

def Mem.add (m : Mem) (who a d : Int) : Mem :=
  if inb m a then (m.stp who a).setw a ((m.w.getD a.toNat 0 + u64 d) % 18446744073709551616) else { m with who := who }

/-! slot -/

structure Take where
  pc : Int
  top : Nat
  next : Int
  slot : Int
  ok : Bool
deriving DecidableEq, Repr

def Take.step (c : Cfg) (who : Int) (m : Mem) (t : Take) : Bool × Take × Mem :=
  if t.pc = 0 then
    let (x, m) := m.load who 1
    let s := (topOf x).1
    (decide (s < 0), { t with top := x, slot := s, pc := 1 }, m)
  else if t.pc = 1 then
    let (x, m) := m.load who (pSlot c t.slot + 1)
    (t.ok, { t with next := (topOf x).1, pc := 2 }, m)
  else
    let (b, m) := m.cas who 1 t.top (putTop t.next ((topOf t.top).2 + 1))
    (b, { t with pc := 0, ok := b }, m)

structure Give where
  pc : Int
  slot : Int
  top : Nat
deriving DecidableEq, Repr

def Give.step (c : Cfg) (who : Int) (m : Mem) (g : Give) : Bool × Give × Mem :=
  if g.pc = 0 then
    let (x, m) := m.load who 1
    (false, { g with top := x, pc := 1 }, m)
  else if g.pc = 1 then
    (false, { g with pc := 2 }, m.store who (pSlot c g.slot + 1) (putTop (topOf g.top).1 0))
  else
    let (b, m) := m.cas who 1 g.top (putTop g.slot ((topOf g.top).2 + 1))
    (b, { g with pc := 0 }, m)

/-! place -/

structure Place where
  cls : Int
  pc : Int
  opn : Nat
  at_ : Int
  w : Nat
  spot : Spot
  ok : Bool
deriving DecidableEq, Repr

def Place.new (k : Int) : Place := ⟨k, 0, 0, 0, 0, ⟨0, 0⟩, false⟩
def Place.fresh (p : Place) : Nat := putChunk ⟨1, p.cls, 0, (chunkOf p.w).stamp + 1⟩

def Place.on (c : Cfg) (p : Place) : Bool × Place := (decide (p.at_ + 1 ≥ c.chunks), { p with at_ := p.at_ + 1, pc := 3 })

def Place.step (c : Cfg) (who : Int) (m : Mem) (p : Place) : Bool × Place × Mem :=
  if p.pc = 0 then
    let (x, m) := m.load who (pOpen p.cls)
    let p := { p with opn := x }
    if (x : Int) - 1 < 0 then (false, { p with at_ := 0, pc := 3 }, m) else (false, { p with at_ := (x : Int) - 1, pc := 1 }, m)
  else if p.pc = 1 then
    let (x, m) := m.load who (pChunk c p.at_)
    let k := chunkOf x
    let p := { p with w := x }
    if k.state ≠ 1 ∨ k.cls ≠ p.cls ∨ k.used + room p.cls > c.words then (false, { p with at_ := 0, pc := 3 }, m)
    else (false, { p with pc := 2 }, m)
  else if p.pc = 2 then
    let k := chunkOf p.w
    let (b, m) := m.cas who (pChunk c p.at_) p.w (putChunk { k with used := k.used + room p.cls })
    if b then (true, { p with pc := 0, spot := ⟨pBase c p.at_ + k.used, p.at_⟩, ok := true }, m) else (false, { p with pc := 0 }, m)
  else if p.pc = 3 then
    let (x, m) := m.load who (pChunk c p.at_)
    let p := { p with w := x }
    if (chunkOf x).state ≠ 0 then let r := p.on c; (r.1, r.2, m) else (false, { p with pc := 4 }, m)
  else if p.pc = 4 then
    let (b, m) := m.cas who (pChunk c p.at_) p.w p.fresh
    if !b then let r := p.on c; (r.1, r.2, m) else (false, { p with pc := 5 }, m)
  else if p.pc = 5 then
    let (b, m) := m.cas who (pOpen p.cls) p.opn (u64 (p.at_ + 1))
    if b then (false, { p with pc := 0 }, m) else (false, { p with pc := 6 }, m)
  else
    let (_, m) := m.cas who (pChunk c p.at_) p.fresh (putChunk ⟨0, 0, 0, (chunkOf p.w).stamp + 2⟩)
    (false, { p with pc := 0 }, m)

/-! alloc -/

structure Alloc where
  size : Int
  own : Bool
  pc : Int
  take : Take
  at_ : Int
  gen : Int
  p : Place
  spot : Spot
  give : Give
  out : Done
deriving DecidableEq, Repr

def Alloc.new (size : Int) (own : Bool) : Alloc :=
  ⟨size, own, 0, ⟨0, 0, 0, 0, false⟩, 0, 0, Place.new 0, ⟨0, 0⟩, ⟨0, 0, 0⟩, ⟨0, 0, 0, 0⟩⟩

def Alloc.head (a : Alloc) (kind : Int) : Nat := putHead ⟨kind, a.size, a.at_, a.gen, a.own⟩

def Alloc.step (c : Cfg) (who : Int) (m : Mem) (a : Alloc) : Bool × Alloc × Mem :=
  if a.pc = 0 then
    if cls a.size < 0 then (true, { a with out := ⟨5, 0, 0, m.steps⟩ }, m)
    else
      let (b, t, m) := a.take.step c who m
      let a := { a with take := t }
      if b then
        if t.ok then (false, { a with at_ := t.slot, pc := 1 }, m)
        else (true, { a with at_ := 0, pc := 1, out := ⟨7, 0, 0, m.steps⟩ }, m)
      else (false, a, m)
  else if a.pc = 1 then
    let (x, m) := m.load who (pSlot c a.at_)
    (false, { a with gen := (slotOf x).gen, pc := 2, p := Place.new (cls a.size) }, m)
  else if a.pc = 2 then
    let (b, p, m) := a.p.step c who m
    let a := { a with p := p }
    if b then
      if p.ok then (false, { a with spot := p.spot, pc := 3 }, m)
      else (false, { a with spot := ⟨0, 0⟩, pc := 7, out := ⟨6, 0, 0, m.steps⟩, give := ⟨0, a.at_, 0⟩ }, m)
    else (false, a, m)
  else if a.pc = 3 then
    (false, { a with pc := 4 }, m.add who (pChunk c a.spot.chunk + 1) (room (cls a.size)))
  else if a.pc = 4 then
    (false, { a with pc := 5 }, m.store who a.spot.addr (a.head 1))
  else if a.pc = 5 then
    let m := m.store who (pSlot c a.at_) (putSlot ⟨1, a.spot.addr, a.gen, 0⟩)
    (false, { a with pc := 6, out := ⟨0, putHandle ⟨a.at_, a.gen⟩, 0, m.steps⟩ }, m)
  else if a.pc = 6 then
    (true, a, m.store who a.spot.addr (a.head 2))
  else
    let (b, g, m) := a.give.step c who m
    (b, { a with give := g }, m)

/-! drop -/

def live (s : Sl) (h : Hd) : Bool := decide ((s.state = 1 ∨ s.state = 2 ∨ s.state = 4) ∧ s.gen = h.gen)

structure Help where
  slot : Int
  w : Nat
  size : Int
  i : Int
  cell : Nat
  read : Bool
  won : Bool
deriving DecidableEq, Repr

def Help.new (slot : Int) (w : Nat) (size : Int) : Help := ⟨slot, w, size, 0, 0, false, false⟩

def Help.step (c : Cfg) (who : Int) (m : Mem) (h : Help) : Bool × Help × Mem :=
  let s := slotOf h.w
  let a := s.addr + 1 + h.i
  if h.i ≥ h.size then
    let next : Sl := if s.gen ≥ c.gens then ⟨3, 0, s.gen, 0⟩ else ⟨0, 0, s.gen + 1, 0⟩
    let (b, m) := m.cas who (pSlot c h.slot) h.w (putSlot next)
    (true, { h with won := b }, m)
  else if h.read = false then
    let (x, m) := m.load who a
    let k := cellOf x
    if k.frozen = true ∧ k.ver = s.ver then (false, { h with cell := x, read := false, i := h.i + 1 }, m)
    else (false, { h with cell := x, read := true }, m)
  else
    let (b, m) := m.cas who a h.cell (putCell ⟨(cellOf h.cell).value, true, s.ver⟩)
    (false, { h with read := false, i := if b then h.i + 1 else h.i }, m)

structure Drop where
  n : Nat
  own : Bool
  h : Hd
  pc : Int
  w : Nat
  size : Int
  help : Help
  give : Give
  out : Done
deriving DecidableEq, Repr

def Drop.new (n : Nat) (own : Bool) : Drop := ⟨n, own, ⟨0, 0⟩, 0, 0, 0, Help.new 0 0 0, ⟨0, 0, 0⟩, ⟨0, 0, 0, 0⟩⟩

def Drop.invalid (d : Drop) (m : Mem) : Bool × Drop × Mem := (true, { d with out := ⟨3, 0, 0, m.steps⟩ }, m)

def Drop.step (c : Cfg) (who : Int) (m : Mem) (d : Drop) : Bool × Drop × Mem :=
  if d.pc = 0 then
    let (h, is) := handle d.n
    let d := { d with h := h }
    if is = false ∨ h.slot ≥ c.slots then d.invalid m
    else
      let (x, m) := m.load who (pSlot c h.slot)
      let d := { d with w := x }
      if live (slotOf x) h = false then d.invalid m else (false, { d with pc := 1 }, m)
  else if d.pc = 1 then
    let (x, m) := m.load who (slotOf d.w).addr
    let k := headOf x
    if k.own ≠ d.own then d.invalid m
    else
      let d := { d with size := k.size, pc := 2 }
      if (slotOf d.w).state = 4 then (false, { d with help := Help.new d.h.slot d.w k.size, pc := 4 }, m) else (false, d, m)
  else if d.pc = 2 then
    let s := slotOf d.w
    let w := putSlot { s with state := 4, ver := s.ver + 1 }
    let (b, m) := m.cas who (pSlot c d.h.slot) d.w w
    if b then (false, { d with pc := 3, help := Help.new d.h.slot w d.size }, m) else (false, { d with pc := 0 }, m)
  else if d.pc = 3 then
    let (b, h, m) := d.help.step c who m
    let d := { d with help := h }
    if b then (false, { d with out := ⟨0, 0, 0, m.wh (pSlot c d.h.slot)⟩, pc := 5 }, m) else (false, d, m)
  else if d.pc = 4 then
    let (b, h, m) := d.help.step c who m
    let d := { d with help := h }
    if b then (false, { d with pc := 0 }, m) else (false, d, m)
  else if d.pc = 5 then
    let chunk := pOf c (slotOf d.w).addr
    let m := m.add who (pChunk c chunk + 1) (-(room (cls d.size)))
    (decide (d.h.gen ≥ c.gens), { d with give := ⟨0, d.h.slot, 0⟩, pc := 6 }, m)
  else
    let (b, g, m) := d.give.step c who m
    (b, { d with give := g }, m)

/-! access -/

structure Want where
  kind : Int
  handle : Nat
  index : Int
  value : Int
  old : Int
deriving DecidableEq, Repr

structure Access where
  x : Want
  own : Bool
  h : Hd
  pc : Int
  w : Nat
  cell : Nat
  seen : Int
  read : Int
  size : Int
  help : Help
  out : Done
deriving DecidableEq, Repr

def Access.new (x : Want) (own : Bool) : Access := ⟨x, own, ⟨0, 0⟩, 0, 0, 0, 0, 0, 0, Help.new 0 0 0, ⟨0, 0, 0, 0⟩⟩

def Access.fin (a : Access) (m : Mem) (e v s : Int) : Bool × Access × Mem := (true, { a with out := ⟨e, 0, v, s⟩ }, m)

def Access.at_ (a : Access) : Int := (slotOf a.w).addr + 1 + a.x.index

def Access.next (a : Access) : Int :=
  let c := cellOf a.cell
  let s := slotOf a.w
  if a.x.kind = 1 ∨ (a.x.kind = 3 ∧ c.value ≠ a.x.old) then 6
  else if s.state = 4 then 4
  else if c.frozen = false ∨ c.ver < s.ver then 5
  else if c.ver = s.ver ∧ s.state = 2 then 3
  else 0

def Access.step (c : Cfg) (who : Int) (m : Mem) (a : Access) : Bool × Access × Mem :=
  if a.pc = 0 then
    let (h, is) := handle a.x.handle
    let a := { a with h := h }
    if is = false ∨ h.slot ≥ c.slots then a.fin m 3 0 m.steps
    else
      let (x, m) := m.load who (pSlot c h.slot)
      let a := { a with w := x, seen := m.steps, pc := 1 }
      if live (slotOf x) h = false then a.fin m 3 0 m.steps else (false, a, m)
  else if a.pc = 1 then
    let (x, m) := m.load who (slotOf a.w).addr
    let k := headOf x
    let a := { a with size := k.size, pc := 2 }
    if k.own ≠ a.own then a.fin m 3 0 m.steps
    else if a.x.index < 0 ∨ a.x.index ≥ k.size then a.fin m 4 0 a.seen
    else (false, a, m)
  else if a.pc = 2 then
    let (x, m) := m.load who a.at_
    let a := { a with cell := x, read := m.steps }
    let a := { a with pc := a.next }
    if a.pc = 4 then (false, { a with help := Help.new a.h.slot a.w a.size }, m) else (false, a, m)
  else if a.pc = 3 then
    let s := slotOf a.w
    let (_, m) := m.cas who (pSlot c a.h.slot) a.w (putSlot { s with state := 1, ver := s.ver + 1 })
    (false, { a with pc := 0 }, m)
  else if a.pc = 4 then
    let (b, h, m) := a.help.step c who m
    let a := { a with help := h }
    if b then (false, { a with pc := 0 }, m) else (false, a, m)
  else if a.pc = 5 then
    let (b, m) := m.cas who a.at_ a.cell (putCell ⟨a.x.value, false, 0⟩)
    let a := { a with pc := 0 }
    if b then a.fin m 0 (cellOf a.cell).value m.steps else (false, a, m)
  else
    let (x, m) := m.load who (pSlot c a.h.slot)
    let s := slotOf x
    let v := (cellOf a.cell).value
    if live s a.h = false then a.fin m 3 0 m.steps
    else if s.addr ≠ (slotOf a.w).addr then (false, { a with pc := 0 }, m)
    else if a.x.kind = 3 then a.fin m 8 v a.read
    else a.fin m 0 v a.read

/-! move -/

structure Move where
  addr : Int
  head : Hed
  pc : Int
  w : Nat
  p : Place
  spot : Spot
  got : Bool
  i : Int
  cell : Nat
  n : Int
  out : Int
deriving DecidableEq, Repr

def Move.new (addr : Int) (head : Hed) : Move := ⟨addr, head, 0, 0, Place.new 0, ⟨0, 0⟩, false, 0, 0, 0, 0⟩

def Move.as (v : Move) (state addr more : Int) : Nat := putSlot ⟨state, addr, (slotOf v.w).gen, (slotOf v.w).ver + more⟩

def Move.copied (v : Move) (kind : Int) : Nat := putHead { v.head with kind := kind }

def Move.fin (v : Move) (m : Mem) (o : Int) : Bool × Move × Mem :=
  if v.got then (false, { v with out := o, pc := 11 }, m) else (true, { v with out := o }, m)

def Move.step (c : Cfg) (who : Int) (m : Mem) (v : Move) : Bool × Move × Mem :=
  if v.pc = 0 then
    let (x, m) := m.load who (pSlot c v.head.slot)
    let v := { v with w := x }
    let s := slotOf x
    if s.state = 4 ∧ s.gen = v.head.gen ∧ s.addr = v.addr then v.fin m 3
    else if s.state ≠ 1 ∨ s.gen ≠ v.head.gen ∨ s.addr ≠ v.addr then v.fin m 2
    else if s.ver ≥ 4194302 then v.fin m 3
    else if v.got then (false, { v with pc := 3 }, m)
    else (false, { v with p := Place.new (cls v.head.size), pc := 1 }, m)
  else if v.pc = 1 then
    let (b, p, m) := v.p.step c who m
    let v := { v with p := p }
    if b then
      let v := { v with spot := if p.ok then p.spot else ⟨0, 0⟩, got := p.ok, pc := 2 }
      if p.ok = false then v.fin m 4 else (false, v, m)
    else (false, v, m)
  else if v.pc = 2 then
    (false, { v with pc := 3 }, m.store who v.spot.addr (v.copied 1))
  else if v.pc = 3 then
    let (b, m) := m.cas who (pSlot c v.head.slot) v.w (v.as 2 v.addr 0)
    (false, { v with i := 0, pc := if b then 4 else 0 }, m)
  else if v.pc = 4 then
    let (x, m) := m.load who (v.addr + 1 + v.i)
    let k := cellOf x
    (false, { v with cell := x, pc := if k.frozen = true ∧ k.ver = (slotOf v.w).ver then 6 else 5 }, m)
  else if v.pc = 5 then
    let (b, m) := m.cas who (v.addr + 1 + v.i) v.cell (putCell ⟨(cellOf v.cell).value, true, (slotOf v.w).ver⟩)
    (false, { v with pc := if b then 6 else 4 }, m)
  else if v.pc = 6 then
    let m := m.store who (v.spot.addr + 1 + v.i) (putCell ⟨(cellOf v.cell).value, false, 0⟩)
    (false, { v with i := v.i + 1, pc := if v.i + 1 ≥ v.head.size then 7 else 4 }, m)
  else if v.pc = 7 then
    let (b, m) := m.cas who (pSlot c v.head.slot) (v.as 2 v.addr 0) (v.as 1 v.spot.addr 1)
    if b then (false, { v with pc := 8 }, m)
    else
      let v := { v with pc := 0, n := v.n + 1 }
      if v.n ≥ c.tries then v.fin m 3 else (false, v, m)
  else if v.pc = 8 then
    (false, { v with pc := 9 }, m.store who v.spot.addr (v.copied 2))
  else if v.pc = 9 then
    (false, { v with pc := 10 }, m.add who (pChunk c v.spot.chunk + 1) (room (cls v.head.size)))
  else if v.pc = 10 then
    (true, { v with out := 1 }, m.add who (pChunk c (pOf c v.addr) + 1) (-(room (cls v.head.size))))
  else
    (true, v, m.store who v.spot.addr (v.copied 3))

/-! an arena at the beginning -/

def Mem.fresh0 (c : Cfg) : Mem := ⟨List.replicate (pLen c).toNat 0, List.replicate (pLen c).toNat 0, 0, 0, ⟨0, 0, false⟩⟩

def freshLoop (c : Cfg) : Nat → Nat → Mem → Mem
  | 0, _, m => m
  | k + 1, i, m => freshLoop c k (i + 1) ((m.store 0 (pSlot c i) (putSlot ⟨0, 0, 1, 0⟩)).store 0 (pSlot c i + 1) (putTop (i + 1) 0))

def fresh (c : Cfg) : Mem :=
  let m := freshLoop c c.slots.toNat 0 (Mem.fresh0 c)
  let m := m.store 0 (pSlot c (c.slots - 1) + 1) (putTop (-1) 0)
  m.store 0 1 (putTop 0 0)

theorem fit_eq {n most : Int} (h0 : 0 ≤ n) (h : n ≤ most) : fit n most = n.toNat := by
  unfold fit; omega

theorem fit_le (n most : Int) (h : 0 ≤ most) : ((fit n most : Nat) : Int) ≤ most := by
  unfold fit; omega

theorem slotOf_putSlot {s : Sl} (h : 0 ≤ s.state ∧ s.state ≤ 7 ∧ 0 ≤ s.addr ∧ s.addr ≤ 1048575 ∧ 0 ≤ s.gen ∧ s.gen ≤ 65535 ∧ 0 ≤ s.ver ∧ s.ver ≤ 4194303) :
    slotOf (putSlot s) = s := by
  obtain ⟨a, b, c, d⟩ := s
  simp only at h
  simp only [slotOf, putSlot, Sl.mk.injEq]
  rw [fit_eq (by omega) (by omega), fit_eq (by omega) (by omega), fit_eq (by omega) (by omega), fit_eq (by omega) (by omega)]
  omega

theorem chunkOf_putChunk {s : Ck} (h : 0 ≤ s.state ∧ s.state ≤ 3 ∧ 0 ≤ s.cls ∧ s.cls ≤ 63 ∧ 0 ≤ s.used ∧ s.used ≤ 1048575 ∧ 0 ≤ s.stamp ∧ s.stamp ≤ 68719476735) :
    chunkOf (putChunk s) = s := by
  obtain ⟨a, b, c, d⟩ := s
  simp only at h
  simp only [chunkOf, putChunk, Ck.mk.injEq]
  rw [fit_eq (by omega) (by omega), fit_eq (by omega) (by omega), fit_eq (by omega) (by omega), fit_eq (by omega) (by omega)]
  omega

theorem putHead_eq {a b c d : Int} {o : Bool} (h : 0 ≤ a ∧ a ≤ 3 ∧ 0 ≤ b ∧ b ≤ 65535 ∧ 0 ≤ c ∧ c ≤ 65535 ∧ 0 ≤ d ∧ d ≤ 65535) :
    putHead ⟨a, b, c, d, o⟩ = a.toNat + b.toNat * 4 + c.toNat * 262144 + d.toNat * 17179869184 + (if o then 1125899906842624 else 0) := by
  simp only [putHead]
  rw [fit_eq (by omega) (by omega), fit_eq (by omega) (by omega), fit_eq (by omega) (by omega), fit_eq (by omega) (by omega)]

theorem headOf_putHead {s : Hed} (h : 0 ≤ s.kind ∧ s.kind ≤ 3 ∧ 0 ≤ s.size ∧ s.size ≤ 65535 ∧ 0 ≤ s.slot ∧ s.slot ≤ 65535 ∧ 0 ≤ s.gen ∧ s.gen ≤ 65535) :
    headOf (putHead s) = s := by
  obtain ⟨a, b, c, d, o⟩ := s
  rw [putHead_eq h]
  simp only at h
  simp only [headOf, Hed.mk.injEq]
  cases o
  · simp only [Bool.false_eq_true, if_false, decide_eq_false_iff_not]; omega
  · simp only [if_true, decide_eq_true_eq]; omega

theorem cellOf_putCell {s : Cl} (h : 0 ≤ s.value ∧ s.value ≤ 1099511627775 ∧ 0 ≤ s.ver ∧ s.ver ≤ 4194303) (hv : s.frozen = false → s.ver = 0) :
    cellOf (putCell s) = s := by
  obtain ⟨a, f, d⟩ := s
  simp only at h hv
  simp only [cellOf, putCell, Cl.mk.injEq]
  rw [fit_eq (by omega) (by omega), fit_eq (by omega) (by omega)]
  cases f
  · have : d = 0 := hv rfl
    subst this
    simp only [Bool.false_eq_true, if_false, decide_eq_false_iff_not]
    refine ⟨by omega, by omega, ?_⟩
    rw [if_neg (by omega)]
  · simp only [if_true, decide_eq_true_eq]
    refine ⟨by omega, by omega, ?_⟩
    rw [if_pos (by omega)]; omega

theorem topOf_putTop {s n : Int} (h : -1 ≤ s ∧ s ≤ 65535 ∧ 0 ≤ n ∧ n ≤ 68719476735) : topOf (putTop s n) = (s, n) := by
  simp only [topOf, putTop, Prod.mk.injEq]
  rw [fit_eq (by omega) (by omega), fit_eq (by omega) (by omega)]
  omega

theorem putHandle_eq {a b : Int} (k : 0 ≤ a ∧ a ≤ 65535 ∧ 0 ≤ b ∧ b ≤ 65535) : putHandle ⟨a, b⟩ = a.toNat + b.toNat * 65536 := by
  simp only [putHandle]
  rw [fit_eq (by omega) (by omega), fit_eq (by omega) (by omega)]

theorem handle_putHandle {h : Hd} (k : 0 ≤ h.slot ∧ h.slot ≤ 65535 ∧ 1 ≤ h.gen ∧ h.gen ≤ 65535) : handle (putHandle h) = (h, true) := by
  obtain ⟨a, b⟩ := h
  simp only at k
  rw [putHandle_eq (by omega)]
  simp only [handle]
  rw [if_neg (by omega)]
  simp only [Prod.mk.injEq, Hd.mk.injEq, and_true]
  omega

theorem slotOf_range (w : Nat) : 0 ≤ (slotOf w).state ∧ (slotOf w).state ≤ 7 ∧ 0 ≤ (slotOf w).addr ∧ (slotOf w).addr ≤ 1048575 ∧ 0 ≤ (slotOf w).gen ∧ (slotOf w).gen ≤ 65535 ∧ 0 ≤ (slotOf w).ver ∧ (slotOf w).ver ≤ 4194303 := by
  simp only [slotOf]; omega
theorem chunkOf_range (w : Nat) : 0 ≤ (chunkOf w).state ∧ (chunkOf w).state ≤ 3 ∧ 0 ≤ (chunkOf w).cls ∧ (chunkOf w).cls ≤ 63 ∧ 0 ≤ (chunkOf w).used ∧ (chunkOf w).used ≤ 1048575 ∧ 0 ≤ (chunkOf w).stamp ∧ (chunkOf w).stamp ≤ 68719476735 := by
  simp only [chunkOf]; omega
theorem headOf_range (w : Nat) : 0 ≤ (headOf w).kind ∧ (headOf w).kind ≤ 3 ∧ 0 ≤ (headOf w).size ∧ (headOf w).size ≤ 65535 ∧ 0 ≤ (headOf w).slot ∧ (headOf w).slot ≤ 65535 ∧ 0 ≤ (headOf w).gen ∧ (headOf w).gen ≤ 65535 := by
  simp only [headOf]; omega
theorem cellOf_range (w : Nat) : 0 ≤ (cellOf w).value ∧ (cellOf w).value ≤ 1099511627775 ∧ 0 ≤ (cellOf w).ver ∧ (cellOf w).ver ≤ 4194303 := by
  simp only [cellOf]; split <;> omega
theorem topOf_range (w : Nat) : -1 ≤ (topOf w).1 ∧ (topOf w).1 ≤ 131070 ∧ 0 ≤ (topOf w).2 ∧ (topOf w).2 ≤ 68719476735 := by
  simp only [topOf]; omega
theorem handle_range (w : Nat) : 0 ≤ (handle w).1.slot ∧ (handle w).1.slot ≤ 65535 ∧ 0 ≤ (handle w).1.gen ∧ (handle w).1.gen ≤ 65535 := by
  simp only [handle]; split
  · simp
  · rename_i h; simp only; omega
theorem putSlot_lt (s : Sl) : putSlot s < 18446744073709551616 := by
  have := fit_le s.state 7 (by decide); have := fit_le s.addr 1048575 (by decide); have := fit_le s.gen 65535 (by decide); have := fit_le s.ver 4194303 (by decide)
  simp only [putSlot]; omega
theorem putChunk_lt (s : Ck) : putChunk s < 18446744073709551616 := by
  have := fit_le s.state 3 (by decide); have := fit_le s.cls 63 (by decide); have := fit_le s.used 1048575 (by decide); have := fit_le s.stamp 68719476735 (by decide)
  simp only [putChunk]; omega
theorem putHead_lt (s : Hed) : putHead s < 18446744073709551616 := by
  have := fit_le s.kind 3 (by decide); have := fit_le s.size 65535 (by decide); have := fit_le s.slot 65535 (by decide); have := fit_le s.gen 65535 (by decide)
  simp only [putHead]; split <;> omega
theorem putCell_lt (s : Cl) : putCell s < 18446744073709551616 := by
  have := fit_le s.value 1099511627775 (by decide); have := fit_le s.ver 4194303 (by decide)
  simp only [putCell]; split <;> omega
theorem putTop_lt (s n : Int) : putTop s n < 18446744073709551616 := by
  have := fit_le (min s 65535 + 1) 65536 (by decide); have := fit_le n 68719476735 (by decide)
  simp only [putTop]; omega
theorem putHandle_lt (h : Hd) : putHandle h < 18446744073709551616 := by
  have := fit_le h.slot 65535 (by decide); have := fit_le h.gen 65535 (by decide)
  simp only [putHandle]; omega
theorem u64_lt (d : Int) : u64 d < 18446744073709551616 := by unfold u64; omega
theorem cls_range (s : Int) : -1 ≤ cls s ∧ cls s ≤ 3 := by
  unfold cls; repeat' split
  all_goals omega
theorem room_of {k : Int} (h0 : 0 ≤ k) (h : k ≤ 3) : room k = 3 ∨ room k = 5 ∨ room k = 9 ∨ room k = 17 := by
  have : k = 0 ∨ k = 1 ∨ k = 2 ∨ k = 3 := by omega
  rcases this with rfl | rfl | rfl | rfl <;> simp [room]
theorem room_range {k : Int} (h : k ≤ 3) : 0 ≤ room k ∧ room k ≤ 17 := by
  by_cases h0 : 0 ≤ k
  · have := room_of h0 h; omega
  · have : room k = 0 := by unfold room; rw [if_pos (by omega)]
    omega

end Go.Proofs.Ythblhgappldcjaa.Fl
