/- A text of the proof: the parts R1, R2, R3, R4, R5, R6, R7. -/
import Derived.Test.YtjflngchbeegcaaGreatDoorK2
set_option linter.unusedSimpArgs false
set_option linter.unusedVariables false
/-! text R1 -/
namespace Go.Vsi

/-! ### the walk as a computed statement: registers, steps -/
inductive RG where
  | v (a : AV)
  | lp (j o : Nat)
  | lit (b : Bool)
  deriving Inhabited

abbrev RE := List (Nat × RG)

def tr (n0 : Nat) : RG → AV
  | .v a => a
  | .lp j o => .ptr (n0 + j) o
  | .lit b => .bool b
def trE (n0 : Nat) : RE → Env
  | [] => []
  | (i, v) :: l => (i, tr n0 v) :: trE n0 l

def rgetO : RE → Nat → Option RG
  | [], _ => none
  | (i, v) :: l, t => match Nat.beq i t with
    | true => some v
    | false => rgetO l t
def rget2 (top bot : RE) (t : Nat) : Option RG := match rgetO top t with
  | some v => some v
  | none => rgetO bot t

theorem trE_append (n0 : Nat) : ∀ a b : RE, trE n0 (a ++ b) = trE n0 a ++ trE n0 b
  | [], _ => rfl
  | (i, v) :: l, b => by simp [trE, trE_append n0 l b]
theorem rgetO_get {n0 : Nat} {t : Nat} : ∀ {l : RE} {v : RG}, rgetO l t = some v → ∀ r : Env, get (trE n0 l ++ r) t = tr n0 v
  | [], _, h, _ => by simp [rgetO] at h
  | (i, w) :: l, v, h, r => by
    simp only [rgetO] at h
    simp only [trE, List.cons_append]
    cases hb : Nat.beq i t with
    | true => simp only [hb, Option.some.injEq] at h; subst h; simp [get, hb]
    | false => simp only [hb] at h; simp only [get, hb]; exact rgetO_get h r
theorem rgetO_none {n0 : Nat} {t : Nat} : ∀ {l : RE}, rgetO l t = none → ∀ r : Env, get (trE n0 l ++ r) t = get r t
  | [], _, _ => by simp [trE]
  | (i, w) :: l, h, r => by
    simp only [rgetO] at h
    simp only [trE, List.cons_append]
    cases hb : Nat.beq i t with
    | true => simp [hb] at h
    | false => simp only [hb] at h; simp only [get, hb]; exact rgetO_none h r
theorem rget2_get {n0 : Nat} {top bot : RE} {t : Nat} {v : RG} (h : rget2 top bot t = some v) : get (trE n0 (top ++ bot)) t = tr n0 v := by
  unfold rget2 at h
  rw [trE_append]
  cases hx : rgetO top t with
  | some w =>
    simp only [hx, Option.some.injEq] at h; subst h
    exact rgetO_get hx _
  | none =>
    simp only [hx] at h
    rw [rgetO_none hx]
    have := rgetO_get (n0 := n0) h []
    simpa using this

def evR [Glob] (top bot : RE) : Operand → Option RG
  | .tmp t => rget2 top bot t
  | .const v => match nf (avc v) with
    | some (.bool b) => some (.lit b)
    | some a => some (.v a)
    | none => none
  | .func f => some (.v (.clo (.func f) [] []))
  | .global g => some (.v (gget Glob.gl g))
theorem evR_const [Glob] {top bot : RE} {c : Value} {v : RG} (h : evR top bot (.const c) = some v) (n0 : Nat) : avc c = tr n0 v := by
  simp only [evR] at h
  split at h
  · rename_i b hb; simp only [Option.some.injEq] at h; subst h; rw [nf_spec hb]; rfl
  · rename_i a _ ha; simp only [Option.some.injEq] at h; subst h; rw [nf_spec ha]; rfl
  · cases h
theorem evR_ev [Glob] {n0 : Nat} {top bot : RE} {x : Operand} {v : RG} (h : evR top bot x = some v) : ev (trE n0 (top ++ bot)) x = tr n0 v := by
  cases x with
  | tmp t => exact rget2_get h
  | const c => exact evR_const h n0
  | func f => simp only [evR, Option.some.injEq] at h; subst h; rfl
  | global g => simp only [evR, Option.some.injEq] at h; subst h; rfl

/-- what one operation comes to -/
inductive SR where
  | fail
  | reg (v : RG)
  | mem (v : RG)
  | box (t : TypeId) (l : List AV)
  | upd (j : Nat) (B : Blk) (v : Option RG)
  | updB (i : Nat) (B : Blk) (v : Option RG)
  | blk (B : Blk) (v : Nat → RG)
  | side (p : Prop) (s : SR)
  | ptr (i : Nat) (kl : Nat → SR) (kb : Blk → SR)
  | seg (l : List AV) (o : Nat) (k : List AV → SR)
  | ofs (i : Int) (n : Nat) (k : Nat → SR)
  | eqv (x : Int) (k : Int → SR)
  | sub (l : List AV) (o n : Nat) (k : List AV → SR)
  | nat (i : Int) (k : Nat → SR)
  | byte (s : ByteArray) (i : Int) (k : UInt8 → SR)
  | or (a b : SR)
  | call (f : Fn) (as : List AV)
  | rel (S : List AV → List AV → Prop) (k : List AV → List AV → SR)
  | anyU (j : Nat) (S : Blk → AV → Prop)
  | blkU (S : Blk → Prop) (v : Nat → RG)

def ofV : Option AV → SR
  | some v => .reg (.v v)
  | none => .fail
/-- an integer, under whatever name -/
def ofI : Option AV → SR
  | some (.int k x) => .eqv x fun y => .reg (.v (.int k y))
  | some v => .reg (.v v)
  | none => .fail
def memV : Option AV → SR
  | some v => .mem (.v v)
  | none => .fail

/-- the plain value of an operand -/
def av [Glob] (n0 : Nat) (top bot : RE) (x : Operand) : AV := match evR top bot x with
  | some v => tr n0 v
  | none => .junk

/-- .. laid open -/
def avF [Glob] (n0 : Nat) (top bot : RE) (x : Operand) : Option AV := match evR top bot x with
  | some (.v a) => some a
  | some (.lp j o) => some (.ptr (n0 + j) o)
  | some (.lit b) => some (.bool b)
  | none => none
theorem avF_av [Glob] {n0 : Nat} {top bot : RE} {x : Operand} {a : AV} (h : avF n0 top bot x = some a) : av n0 top bot x = a := by
  unfold avF at h
  unfold av
  cases he : evR top bot x with
  | none => simp [he] at h
  | some v => cases v <;> simp only [he, Option.some.injEq] at h <;> subst h <;> rfl
def withV (v : Option AV) (k : AV → SR) : SR := match v with
  | some a => k a
  | none => .fail
def withL {α : Type} (v : Option (List α)) (k : List α → SR) : SR := match v with
  | some a => k a
  | none => .fail

def intS : BinOp → IntKind → Int → IntKind → Int → Option SR
  | .quo, k, m, k', n => match ikEq k k' with
    | true => some (.side (n ≠ 0) (.eqv (k.wrap (m.tdiv n)) fun y => .reg (.v (.int k y))))
    | false => none
  | .rem, k, m, k', n => match ikEq k k' with
    | true => some (.side (n ≠ 0) (.eqv (m.tmod n) fun y => .reg (.v (.int k y))))
    | false => none
  | .shl, k, m, _, n => some (.side (0 ≤ n) (.eqv (k.wrap (m * 2 ^ min n.toNat k.bits)) fun y => .reg (.v (.int k y))))
  | .shr, k, m, _, n => some (.side (0 ≤ n) (.eqv (m.fdiv (2 ^ min n.toNat k.bits)) fun y => .reg (.v (.int k y))))
  | _, _, _, _, _ => none

def strS (op : BinOp) (a b : ByteArray) : SR := match op with
  | .add => .side (a.size + b.size ≤ 9223372036854775807) (.reg (.v (.str (a ++ b))))
  | _ => ofV (strBin op a b)

def binS (kn : TypeId → Nat) (T : TypeId → Option TI) (op : BinOp) (t : TypeId) (a b : AV) : SR :=
  match a, b with
  | .int k m, .int k' n => match intS op k m k' n with
    | some s => s
    | none => match ikEq k k' with
      | true => ofI (intBin op k m n)
      | false => .fail
  | .str a, .str b => strS op a b
  | .bool a, .bool b => match isBoolT T t with
    | true => ofV (boolBin op a b)
    | false => .fail
  | .agg l, .agg m => match kn t with
    | _ + 2 => match eqV kn T 20 t (.agg l) (.agg m) with
      | some b => match op with
        | .eql => .reg (.v (.bool b))
        | .neq => .reg (.v (.bool (!b)))
        | _ => .fail
      | none => .fail
    | _ => .fail
  | _, _ => .fail

def moveS : Option RG → SR
  | some v => .reg v
  | none => .fail

def fieldS (T : TypeId → Option TI) (s : TypeId) (f : Nat) : Option RG → SR
  | some (.lp j o) => match T s with
    | some ti => match ti.kind with
      | .st fs => match lget fs f with
        | some (_, off, _ + 1, _) => .reg (.lp j (o + off))
        | _ => .fail
      | _ => .fail
    | none => .fail
  | some (.v a) => ofV (fieldV T s f a)
  | _ => .fail

def loadS (T : TypeId → Option TI) (t : TypeId) (loc : Heap) : Option RG → SR
  | some (.lp j o) => match lget loc j with
    | some (.box _ l) => match dropC o l with
      | some l' => match T t with
        | some ti => memV (loadC ti l')
        | none => .fail
      | none => .fail
    | _ => .fail
  | some (.v (.rptr l)) => match T t with
    | some ti => memV (loadC ti l)
    | none => .fail
  | some (.v (.ptr i o)) => .ptr i (fun j => match lget loc j with
      | some (.box _ l) => match dropC o l with
        | some l' => match T t with
          | some ti => memV (loadC ti l')
          | none => .fail
        | none => .fail
      | _ => .fail) (fun B => match B with
        | .box _ l => match dropC o l with
          | some l' => match T t with
            | some ti => memV (loadC ti l')
            | none => .fail
          | none => .fail
        | _ => .fail)
  | _ => .fail

/-- the cells of a value that is stored -/
def cellsS (v : AV) : Option (List AV) := match v with
  | .agg l => match allOne l with
    | true => some l
    | false => none
  | .tup _ | .junk => none
  | v => some [v]
theorem cellsS_spec {v : AV} {l : List AV} (h : cellsS v = some l) : v.cells = l ∧ allOne l = true := by
  cases v <;> simp only [cellsS, Option.some.injEq, reduceCtorEq] at h
  case agg m =>
    cases hm : allOne m with
    | true => simp only [hm, Option.some.injEq] at h; subst h; exact ⟨rfl, hm⟩
    | false => simp [hm] at h
  all_goals subst h; exact ⟨rfl, rfl⟩

def storeS (T : TypeId → Option TI) (t : TypeId) (loc : Heap) (p : Option RG) (v : Option AV) : SR :=
  match v with
  | none => .fail
  | some v => match cellsS v with
    | none => .fail
    | some vs => match T t with
      | none => .fail
      | some ti => match Nat.beq vs.length ti.sz with
        | false => .fail
        | true => match p with
          | some (.lp j o) => match lget loc j with
            | some (.box u l) => match setC l o vs with
              | some l' => .upd j (.box u l') none
              | none => .fail
            | _ => .fail
          | some (.v (.ptr i o)) => .ptr i (fun j => match lget loc j with
            | some (.box u l) => match setC l o vs with
              | some l' => .upd j (.box u l') none
              | none => .fail
            | _ => .fail) (fun B => match B with
            | .box u l => match setC l o vs with
              | some l' => .updB i (.box u l') none
              | none => .fail
            | _ => .fail)
          | _ => .fail

def allocS (T : TypeId → Option TI) (t : TypeId) : SR := match T t with
  | some ti => match ti.zero with
    | some z => .box t z
    | none => .fail
  | none => .fail
/-- the cells of a value that gets a box -/
def boxC (v : AV) : Option (List AV) := match v with
  | .agg l => some l
  | .tup _ | .junk => none
  | v => some [v]
theorem boxC_spec {v : AV} {l : List AV} (h : boxC v = some l) : v.cells = l ∧ (v.one = true ∨ ∃ l, v = .agg l) := by
  cases v <;> simp only [boxC, Option.some.injEq, reduceCtorEq] at h
  all_goals subst h
  case agg m => exact ⟨rfl, .inr ⟨m, rfl⟩⟩
  all_goals exact ⟨rfl, .inl rfl⟩
def boxS (t : TypeId) (v : AV) : SR := match boxC v with
  | some l => .box t l
  | none => .fail

def indexS (T : TypeId → Option TI) (t : TypeId) (x : Option RG) (y : AV) : SR := match y with
  | .int _ i => match T t with
    | some ti => match ti.kind with
      | .sl e => match T e with
        | some ei => match x with
          | some (.v (.ms b o n)) => .ptr b (fun j => .ofs i n fun m => .reg (.lp j (o + m * ei.sz))) (fun _ => .ofs i n fun m => .reg (.v (.ptr b (o + m * ei.sz))))
          | some (.v a) => match slOf a with
            | some (n, l) => .side (0 ≤ i ∧ i < n) (.seg l (i.toNat * ei.sz) fun l' => .side (l' ≠ []) (.reg (.v (.rptr l'))))
            | none => .fail
          | _ => .fail
        | none => .fail
      | .arr n e => match T e with
        | some ei => match x with
          | some (.lp j o) => .ofs i n fun m => .reg (.lp j (o + m * ei.sz))
          | some (.v (.ptr b o)) => .ofs i n fun m => .reg (.v (.ptr b (o + m * ei.sz)))
          | some (.v (.rptr l)) => .side (0 ≤ i ∧ i < n) (.seg l (i.toNat * ei.sz) fun l' => .reg (.v (.rptr l')))
          | _ => .fail
        | none => .fail
      | _ => .fail
    | none => .fail
  | _ => .fail

/-- the operands' plain values -/
def avL [Glob] (n0 : Nat) (top bot : RE) : List Operand → List AV
  | [] => []
  | x :: l => av n0 top bot x :: avL n0 top bot l
def avP [Glob] (n0 : Nat) (top bot : RE) : List (Nat × Operand) → List (Nat × AV)
  | [] => []
  | (i, x) :: l => (i, av n0 top bot x) :: avP n0 top bot l
def avLF [Glob] (n0 : Nat) (top bot : RE) : List Operand → Option (List AV)
  | [] => some []
  | x :: l => match avF n0 top bot x with
    | some a => match avLF n0 top bot l with
      | some r => some (a :: r)
      | none => none
    | none => none
def avPF [Glob] (n0 : Nat) (top bot : RE) : List (Nat × Operand) → Option (List (Nat × AV))
  | [] => some []
  | (i, x) :: l => match avF n0 top bot x with
    | some a => match avPF n0 top bot l with
      | some r => some ((i, a) :: r)
      | none => none
    | none => none
theorem avLF_eq [Glob] {n0 : Nat} {top bot : RE} : ∀ {l : List Operand} {r : List AV}, avLF n0 top bot l = some r → avL n0 top bot l = r
  | [], r, h => by simp only [avLF, Option.some.injEq] at h; exact h
  | x :: l, r, h => by
    simp only [avLF] at h
    split at h
    · rename_i a ha
      split at h
      · rename_i r' hr
        simp only [Option.some.injEq] at h; subst h
        simp only [avL]; rw [avF_av ha, avLF_eq hr]
      · cases h
    · cases h
theorem avPF_eq [Glob] {n0 : Nat} {top bot : RE} : ∀ {l : List (Nat × Operand)} {r : List (Nat × AV)}, avPF n0 top bot l = some r → avP n0 top bot l = r
  | [], r, h => by simp only [avPF, Option.some.injEq] at h; exact h
  | (i, x) :: l, r, h => by
    simp only [avPF] at h
    split at h
    · rename_i a ha
      split at h
      · rename_i r' hr
        simp only [Option.some.injEq] at h; subst h
        simp only [avP]; rw [avF_av ha, avPF_eq hr]
      · cases h
    · cases h
def appO : List AV → List AV → Option (List AV)
  | [], m => some m
  | x :: l, m => match appO l m with
    | some r => some (x :: r)
    | none => none
theorem appO_eq : ∀ {l m r : List AV}, appO l m = some r → r = l ++ m
  | [], m, r, h => by simp only [appO, Option.some.injEq] at h; exact h.symm
  | x :: l, m, r, h => by
    simp only [appO] at h
    split at h
    · rename_i r' hr
      simp only [Option.some.injEq] at h; subst h
      rw [appO_eq hr]; rfl
    · cases h
def repO : Nat → List AV → Option (List AV)
  | 0, _ => some []
  | n + 1, z => match repO n z with
    | some r => appO z r
    | none => none
theorem repO_eq : ∀ {n : Nat} {z r : List AV}, repO n z = some r → r = repC n z
  | 0, z, r, h => by simp only [repO, Option.some.injEq] at h; exact h.symm
  | n + 1, z, r, h => by
    simp only [repO] at h
    split at h
    · rename_i r' hr
      rw [appO_eq h, repO_eq hr]; rfl
    · cases h
def appL : List AV → List AV → List AV
  | [], m => m
  | x :: l, m => x :: appL l m
theorem appL_eq : ∀ l m, appL l m = l ++ m
  | [], _ => rfl
  | x :: l, m => by simp [appL, appL_eq l m]

def buildS (T : TypeId → Option TI) (t : TypeId) (kn : TypeId → Nat) (parts : List (Nat × AV)) : SR := match allOA parts with
  | false => .fail
  | true => match T t with
    | some ti => match ti.zero with
      | some z => match ti.kind with
        | .st fs => match kn t with
          | _ + 1 => match fillC (stPlace fs) z parts with
            | some l => .reg (.v (.agg l))
            | none => .fail
          | 0 => .fail
        | .arr _ e => match T e with
          | some ei => match fillC (arrPlace ei.sz) z parts with
            | some l => .reg (.v (.agg l))
            | none => .fail
          | none => .fail
        | _ => .fail
      | none => .fail
    | none => .fail

def buildSliceS (T : TypeId → Option TI) (t : TypeId) (n : Nat) (parts : List (Nat × AV)) : SR := match allOA parts with
  | false => .fail
  | true => match T t with
    | some ti => match ti.kind with
      | .sl e => match T e with
        | some ei => match ei.zero with
          | some z => match Nat.beq z.length ei.sz with
            | true => match Nat.ble (n * ei.sz) 16777216 with
              | true => match repO n z with
                | some zs => match fillC (arrPlace ei.sz) zs parts with
                  | some l => .mem (.v (.sx n l))
                  | none => .fail
                | none => .fail
              | false => .fail
            | false => .fail
          | none => .fail
        | none => .fail
      | _ => .fail
    | none => .fail

def fieldPartV (T : TypeId → Option TI) (s : TypeId) (f : Nat) : AV → Option AV
  | .agg l => match T s with
    | some ti => match ti.kind with
      | .st fs => match lget fs f with
        | some (ft, off, _, _) => match T ft with
          | some fi => match dropC off l with
            | some l' => loadC fi l'
            | none => none
          | none => none
        | none => none
      | _ => none
    | none => none
  | _ => none

def nilS : Option RG → SR
  | some (.lp j o) => .reg (.lp j o)
  | some (.v (.ptr i k)) => .reg (.v (.ptr i k))
  | some (.v (.rptr l)) => .reg (.v (.rptr l))
  | some (.v (.clo f fs cs)) => .side (fnReal f) (.reg (.v (.clo f fs cs)))
  | _ => .fail
def notS : AV → SR
  | .bool b => .reg (.v (.bool (!b)))
  | _ => .fail
def negS : AV → SR
  | .int k n => .eqv (k.wrap (0 - n)) fun y => .reg (.v (.int k y))
  | _ => .fail
def comS : AV → SR
  | .int k n => .eqv (bits .xor k (comK k) n) fun y => .reg (.v (.int k y))
  | _ => .fail
def extractS (i : Nat) : AV → SR
  | .tup l => match lget l i with
    | some v => .reg (.v v)
    | none => .fail
  | _ => .fail
def callS (as : List AV) : AV → SR
  | .clo f fs cs => .call f (appL (appL fs as) cs)
  | _ => .fail

/-- the length of a slice or a string -/
def lenS (T : TypeId → Option TI) (t : TypeId) (a : AV) : SR := match T t with
  | some ti => match ti.kind with
    | .sl _ => match a with
      | .ms _ _ n => .reg (.v (.int .i64 n))
      | a => match slOf a with
        | some (n, _) => .reg (.v (.int .i64 n))
        | none => .fail
    | .str => match a with
      | .str s => .reg (.v (.int .i64 s.size))
      | _ => .fail
    | .mp _ _ => match a with
      | .rmp ks _ => .reg (.v (.int .i64 ks.length))
      | _ => .fail
    | _ => .fail
  | none => .fail

/-- a bound of a slice expression -/
def bdS (v : Option AV) (d : Nat) (k : Nat → SR) : SR := match v with
  | none => k d
  | some (.int _ i) => .nat i k
  | _ => .fail
def avO [Glob] (n0 : Nat) (top bot : RE) : Option Operand → Option AV
  | none => none
  | some x => some (av n0 top bot x)

def sliceS (T : TypeId → Option TI) (t : TypeId) (a : AV) (low high max : Option AV) : SR := match T t with
  | some ti => match ti.kind with
    | .sl e => match T e with
      | some ei => match slOf a with
        | some (n, l) => match max with
          | none => bdS low 0 fun lo => bdS high n fun hi => .side (lo ≤ hi ∧ hi ≤ n) (.sub l (lo * ei.sz) ((hi - lo) * ei.sz) fun l' => .reg (.v (.sl none (hi - lo) l')))
          | some (.int _ m) => match high with
            | some (.int _ h) => bdS low 0 fun lo => .nat h fun hi => .side (m = h ∧ lo ≤ hi ∧ hi ≤ n) (.sub l (lo * ei.sz) ((hi - lo) * ei.sz) fun l' => .reg (.v (.sx (hi - lo) l')))
            | _ => .fail
          | _ => .fail
        | none => .fail
      | none => .fail
    | .str => match a with
      | .str s => match max with
        | none => bdS low 0 fun lo => bdS high s.size fun hi => .side (lo ≤ hi ∧ hi ≤ s.size) (.reg (.v (.str (s.extract lo hi))))
        | _ => .fail
      | _ => .fail
    | _ => .fail
  | none => .fail

def indexV (T : TypeId → Option TI) (t : TypeId) (a y : AV) : SR := match T t with
  | some ti => match ti.kind with
    | .str => match a with
      | .str s => match y with
        | .int _ i => .side (0 ≤ i) (.byte s i fun b => .reg (.v (.int .u8 b.toNat)))
        | _ => .fail
      | _ => .fail
    | _ => .fail
  | none => .fail

def makeS (n0 : Nat) (T : TypeId → Option TI) (t : TypeId) (x y : AV) : SR := match T t with
  | some ti => match ti.kind with
    | .sl e => match T e with
      | some ei => match ei.zero with
        | some z => match Nat.beq z.length ei.sz with
          | true => match x with
            | .int _ i => match y with
              | .int _ c => .nat i fun n => .side (c = i ∧ i ≤ 9223372036854775807 ∧ n * ei.bytes ≤ 281474976710656)
                  (.or (.mem (.v (.sx n (repC n z)))) (.blk (.box e (repC n z)) fun k => .v (.ms (n0 + k) 0 n)))
              | _ => .fail
            | _ => .fail
          | false => .fail
        | none => .fail
      | none => .fail
    | _ => .fail
  | none => .fail

/-- what append asks -/
structure AppT (L n m sz bytes : Nat) (l l2 : List AV) : Prop where
  L : L = l.length
  one : allOne l2 = true
  l2 : l2.length = m * sz
  bytes : (n + m) * bytes ≤ 140737488355328
  max : n + m ≤ maxLen
structure AppX (n m sz bytes : Nat) (l l2 : List AV) : Prop where
  m0 : 0 < m
  l : l.length = n * sz
  l2 : l2.length = m * sz
  bytes : (n + m) * bytes ≤ 140737488355328
  max : n + m ≤ maxLen

def appendS (n0 : Nat) (T : TypeId → Option TI) (t : TypeId) (loc : Heap) (x y : AV) : SR := match slOf y with
  | some (m, l2) => match T t with
    | some ti => match ti.kind with
      | .sl e => match T e with
        | some ei => match ei.zero with
          | some z => match Nat.beq z.length ei.sz with
            | true => match ei.sz with
              | 0 => .fail
              | sz + 1 => match x with
                | .sl (some tk) n l => .ptr tk (fun j => match lget loc j with
                    | some (.tok e' sz' L) => match Nat.beq e' e with
                      | true => match Nat.beq sz' (sz + 1) with
                        | true => .side (AppT L n m (sz + 1) ei.bytes l l2) (.upd j (.tok e (sz + 1) (l ++ l2).length) (some (.v (.sl (some tk) (n + m) (l ++ l2)))))
                        | false => .fail
                      | false => .fail
                    | _ => .fail) (fun B => match B with
                    | .tok e' sz' L => match Nat.beq e' e with
                      | true => match Nat.beq sz' (sz + 1) with
                        | true => .side (AppT L n m (sz + 1) ei.bytes l l2) (.updB tk (.tok e (sz + 1) (l ++ l2).length) (some (.v (.sl (some tk) (n + m) (l ++ l2)))))
                        | false => .fail
                      | false => .fail
                    | _ => .fail)
                | .sx n l => .or (.side (AppX n m (sz + 1) ei.bytes l l2) (.blk (.tok e (sz + 1) (l ++ l2).length) fun k => .v (.sl (some (n0 + k)) (n + m) (l ++ l2)))) (.side (m = 0) (.reg (.v (.sx n l))))
                | .nils => .or (.side (AppX 0 m (sz + 1) ei.bytes [] l2) (.blk (.tok e (sz + 1) (([] : List AV) ++ l2).length) fun k => .v (.sl (some (n0 + k)) (0 + m) ([] ++ l2)))) (.or (.side (m = 0) (.reg (.v .nils))) (.side (AppX 0 m (sz + 1) ei.bytes [] l2) (.blkU (fun B => ∃ s, B = .box e (l2 ++ List.replicate s .junk)) fun k => .v (.ms (n0 + k) 0 (0 + m)))))
                | .sl none n l => .side (m = 0) (.reg (.v (.sl none n l)))
                | _ => .fail
            | false => .fail
          | none => .fail
        | none => .fail
      | _ => .fail
    | none => .fail
  | none => .fail

/-! maps -/
def lookR (kn : TypeId → Nat) (T : TypeId → Option TI) (kt : TypeId) (ei : TI) (ok : Bool) (k : AV) (ks vs : List AV) : SR :=
  .rel (fun a _ => (∃ b, eqV kn T 20 kt k k = some b) ∧ MLook (eqV kn T 20 kt) ks vs k a) fun a _ => match lookV ei a with
    | some (v, fd) => match ok with
      | true => .mem (.v (.tup [v, .bool fd]))
      | false => .mem (.v v)
    | none => .fail
def lookupS (kn : TypeId → Nat) (T : TypeId → Option TI) (t : TypeId) (loc : Heap) (ok : Bool) (m k : AV) : SR := match T t with
  | some ti => match ti.kind with
    | .mp kt et => match T et with
      | some ei => match m with
        | .mp i => .ptr i (fun j => match lget loc j with
            | some (.mp ks vs) => lookR kn T kt ei ok k ks vs
            | _ => .fail) (fun B => match B with
            | .mp ks vs => lookR kn T kt ei ok k ks vs
            | _ => .fail)
        | .rmp ks vs => lookR kn T kt ei ok k ks vs
        | .nilm => lookR kn T kt ei ok k [] []
        | _ => .fail
      | none => .fail
    | _ => .fail
  | none => .fail
def mapPutS (kn : TypeId → Nat) (T : TypeId → Option TI) (t : TypeId) (loc : Heap) (m k v : AV) : SR := match T t with
  | some ti => match ti.kind with
    | .mp kt _ => match m with
      | .mp i => match plainV k with
        | true => .ptr i (fun j => match lget loc j with
            | some (.mp ks vs) => .rel (fun ks' vs' => (∃ b, eqV kn T 20 kt k k = some b) ∧ MPut (eqV kn T 20 kt) ks vs k v ks' vs') fun ks' vs' => .upd j (.mp ks' vs') none
            | _ => .fail) (fun B => match B with
            | .mp ks vs => .rel (fun ks' vs' => (∃ b, eqV kn T 20 kt k k = some b) ∧ MPut (eqV kn T 20 kt) ks vs k v ks' vs') fun ks' vs' => .updB i (.mp ks' vs') none
            | _ => .fail)
        | false => .fail
      | _ => .fail
    | _ => .fail
  | none => .fail

/-! range over maps -/
def mapOfS (loc : Heap) (m : AV) (k : List AV → List AV → SR) : SR := match m with
  | .mp i => .ptr i (fun j => match lget loc j with
      | some (.mp ks vs) => k ks vs
      | _ => .fail) (fun B => match B with
      | .mp ks vs => k ks vs
      | _ => .fail)
  | .rmp ks vs => k ks vs
  | _ => .fail
def rangeS (T : TypeId → Option TI) (t : TypeId) (loc : Heap) (m : AV) : SR := match T t with
  | some ti => match ti.kind with
    | .mp _ _ => mapOfS loc m fun ks _ => .blk (.it m ks.length []) fun k => .lp k 0
    | _ => .fail
  | none => .fail
def nextS (loc : Heap) : Option RG → SR
  | some (.lp j o) => match o with
    | 0 => match lget loc j with
      | some (.it src n seen) => mapOfS loc src fun ks vs => .side (ks.length = n) (.anyU j (NextS src n seen ks vs))
      | _ => .fail
    | _ + 1 => .fail
  | _ => .fail
def EntryS (n : Nat) (seen : List Nat) (ks vs : List AV) (a b : List AV) : Prop := ks.length = n ∧ b = [] ∧ ∃ s e k v, seen = s ++ [e] ∧ ks[e]? = some k ∧ vs[e]? = some v ∧ a = [k, v]
def entryS (loc : Heap) : Option RG → SR
  | some (.lp j o) => match o with
    | 0 => match lget loc j with
      | some (.it src n seen) => mapOfS loc src fun ks vs => .rel (EntryS n seen ks vs) fun a _ => .mem (.v (.tup a))
      | _ => .fail
    | _ + 1 => .fail
  | _ => .fail

def stepS [Glob] (kn : TypeId → Nat) (T : TypeId → Option TI) (n0 : Nat) (top bot : RE) (loc : Heap) : Op → SR
  | .move x => moveS (evR top bot x)
  | .assign x => moveS (evR top bot x)
  | .binOp op t x y _ => binS kn T op t (av n0 top bot x) (av n0 top bot y)
  | .unOp .not _ x => notS (av n0 top bot x)
  | .unOp .neg _ x => negS (av n0 top bot x)
  | .unOp .xor _ x => comS (av n0 top bot x)
  | .convert s t x => ofI (convV T s t (av n0 top bot x))
  | .extract x i => extractS i (av n0 top bot x)
  | .fieldAddr s x f => fieldS T s f (evR top bot x)
  | .field s x f => ofV (fieldPartV T s f (av n0 top bot x))
  | .nilCheck x => nilS (evR top bot x)
  | .load t x => loadS T t loc (evR top bot x)
  | .store t x y => storeS T t loc (evR top bot x) (avF n0 top bot y)
  | .alloc t => allocS T t
  | .box t x => withV (avF n0 top bot x) fun v => boxS t v
  | .build t ⟨ps⟩ => withL (avPF n0 top bot ps) fun l => buildS T t kn l
  | .buildSlice t n ⟨ps⟩ => withL (avPF n0 top bot ps) fun l => buildSliceS T t n l
  | .indexAddr t x y => indexS T t (evR top bot x) (av n0 top bot y)
  | .makeFunc (.func fn) ⟨fs⟩ ⟨cs⟩ => withL (avLF n0 top bot fs) fun fs => withL (avLF n0 top bot cs) fun cs => .reg (.v (.clo (.func fn) fs cs))
  | .slice t x low high max => sliceS T t (av n0 top bot x) (avO n0 top bot low) (avO n0 top bot high) (avO n0 top bot max)
  | .index t x y => indexV T t (av n0 top bot x) (av n0 top bot y)
  | .makeSlice t x y => makeS n0 T t (av n0 top bot x) (av n0 top bot y)
  | .makeMap _ none => .blk (.mp [] []) fun k => .v (.mp (n0 + k))
  | .lookup t x y ok => withV (avF n0 top bot y) fun k => lookupS kn T t loc ok (av n0 top bot x) k
  | .mapUpdate t x y z => withV (avF n0 top bot y) fun k => withV (avF n0 top bot z) fun v => mapPutS kn T t loc (av n0 top bot x) k v
  | .insert t x y z => withV (avF n0 top bot y) fun k => withV (avF n0 top bot z) fun v => mapPutS kn T t loc (av n0 top bot x) k v
  | .range t x => rangeS T t loc (av n0 top bot x)
  | .next x isStr => match isStr with
    | false => nextS loc (evR top bot x)
    | true => .fail
  | .entry x => entryS loc (evR top bot x)
  | .call { callee := .builtin .len, args := ⟨[x]⟩, argTypes := ⟨[t]⟩ } => lenS T t (av n0 top bot x)
  | .call { callee := .builtin .append, args := ⟨[x, y]⟩, argTypes := ⟨[t, u]⟩ } => match Nat.beq t u with
    | true => appendS n0 T t loc (av n0 top bot x) (av n0 top bot y)
    | false => .fail
  | .call { callee := .builtin .min, args := ⟨[x, y]⟩, .. } => ofV (minV (av n0 top bot x) (av n0 top bot y))
  | .call { callee := .builtin .max, args := ⟨[x, y]⟩, .. } => ofV (maxV (av n0 top bot x) (av n0 top bot y))
  | .call { callee := .value f, args := ⟨xs⟩, .. } => withL (avLF n0 top bot xs) fun as => callS as (av n0 top bot f)
  | _ => .fail
end Go.Vsi
/-! text R2 -/
namespace Go.Vsi

/-- a tree of choices comes to a leaf -/
inductive Res (n0 : Nat) (base : Heap) : SR → SR → Prop where
  | refl (s : SR) : Res n0 base s s
  | side {p : Prop} {s r : SR} : p → Res n0 base s r → Res n0 base (.side p s) r
  | ptrL {i j : Nat} {kl kb r} : i = n0 + j → Res n0 base (kl j) r → Res n0 base (.ptr i kl kb) r
  | ptrB {i : Nat} {B kl kb r} : base[i]? = some B → Res n0 base (kb B) r → Res n0 base (.ptr i kl kb) r
  | seg {l o l' k r} : Seg l o l' → Res n0 base (k l') r → Res n0 base (.seg l o k) r
  | eqv {x y : Int} {k r} : x = y → Res n0 base (k y) r → Res n0 base (.eqv x k) r
  | sub {l o n l' k r} : SubL l o n l' → Res n0 base (k l') r → Res n0 base (.sub l o n k) r
  | nat {i : Int} {m : Nat} {k r} : i = (m : Int) → Res n0 base (k m) r → Res n0 base (.nat i k) r
  | byte {s : ByteArray} {i : Int} {b : UInt8} {k r} : s[i.toNat]? = some b → Res n0 base (k b) r → Res n0 base (.byte s i k) r
  | orl {a b r} : Res n0 base a r → Res n0 base (.or a b) r
  | orr {a b r} : Res n0 base b r → Res n0 base (.or a b) r
  | rel {S : List AV → List AV → Prop} {a b : List AV} {k r} : S a b → Res n0 base (k a b) r → Res n0 base (.rel S k) r
  | ofs {i : Int} {n m : Nat} {k r} : i = (m : Int) → m < n → Res n0 base (k m) r → Res n0 base (.ofs i n k) r

def leaf : SR → Bool
  | .reg _ | .mem _ | .box _ _ | .upd _ _ _ | .updB _ _ _ | .blk _ _ | .call _ _ | .anyU _ _ | .blkU _ _ => true
  | _ => false

section
variable {P : Program} {N : FN}

def LeafOk [Glob] (P : Program) (N : FN) (n0 : Nat) (base : Heap) (k : Nat) (loc : Heap) (env : Env) (o : Oper) : SR → Prop
  | .reg v => ∀ hp, Step P N hp env o (tr n0 v) hp
  | .mem v => ∀ X : Heap, Step P N ⟨base, k + X.length, loc ++ X⟩ env o (tr n0 v) ⟨base, k + X.length, loc ++ X⟩
  | .box t l => AOk P N (.box t l) env o
  | .upd j B none => ∀ loc', lset loc j B = some loc' → StepU P N ⟨base, k, loc⟩ env o ⟨base, k, loc'⟩
  | .upd j B (some v) => ∀ loc', lset loc j B = some loc' → Step P N ⟨base, k, loc⟩ env o (tr n0 v) ⟨base, k, loc'⟩
  | .updB i B none => StepU P N ⟨base, k, loc⟩ env o ⟨base.set i B, k, loc⟩
  | .updB i B (some v) => Step P N ⟨base, k, loc⟩ env o (tr n0 v) ⟨base.set i B, k, loc⟩
  | .blk B v => Step P N ⟨base, k, loc⟩ env o (tr n0 (v k)) ⟨base, k + 1, loc ++ [B]⟩
  | .call F as => ∃ f xs ts fs cs ws, o.op = .call { callee := .value f, args := (xs : List Operand).toArray, argTypes := ts } ∧ ev env f = .clo F fs cs ∧ (fs ++ ws) ++ cs = as ∧
      ∀ g w a, ERel N g w env a → LRel g w ws (xs.map a.eval)
  | .anyU j S => ∀ g w a, HRel g w ⟨base, k, loc⟩ → ERel N g w env a → ∃ B v c g' w', S B v ∧ (execOp a.eval o).run P w = .ok (.value c) w' ∧ (∀ loc', lset loc j B = some loc' → HRel g' w' ⟨base, k, loc'⟩) ∧ VRel g' w' v c ∧ Ext g w g' w'
  | .blkU S v => ∀ g w a, HRel g w ⟨base, k, loc⟩ → ERel N g w env a → ∃ B c g' w', S B ∧ (execOp a.eval o).run P w = .ok (.value c) w' ∧ HRel g' w' ⟨base, k + 1, loc ++ [B]⟩ ∧ VRel g' w' (tr n0 (v k)) c ∧ Ext g w g' w'
  | _ => True

variable {n0 : Nat} {base : Heap} {k : Nat} {loc : Heap} {top bot : RE} {o : Oper} {T : TypeId → Option TI} {kn : TypeId → Nat} {r : SR}

theorem av_ev [Glob] {x : Operand} {v : AV} (h : av n0 top bot x = v) (hv : v ≠ .junk) : ev (trE n0 (top ++ bot)) x = v := by
  unfold av at h
  cases he : evR top bot x with
  | none => simp only [he] at h; exact absurd h.symm hv
  | some w => simp only [he] at h; rw [evR_ev he, h]

theorem res_reg {v : RG} (h : Res n0 base (.reg v) r) : r = .reg v := by cases h; rfl
theorem res_mem {v : RG} (h : Res n0 base (.mem v) r) : r = .mem v := by cases h; rfl
theorem res_fail (h : Res n0 base .fail r) (hl : leaf r = true) : False := by cases h; cases hl
theorem res_ofV {w : Option AV} (h : Res n0 base (ofV w) r) (hl : leaf r = true) : ∃ v, w = some v ∧ r = .reg (.v v) := by
  cases w with
  | none => exact (res_fail h hl).elim
  | some v => exact ⟨v, rfl, res_reg h⟩
theorem res_memV {w : Option AV} (h : Res n0 base (memV w) r) (hl : leaf r = true) : ∃ v, w = some v ∧ r = .mem (.v v) := by
  cases w with
  | none => exact (res_fail h hl).elim
  | some v => exact ⟨v, rfl, res_mem h⟩
theorem res_side {p : Prop} {s : SR} (h : Res n0 base (.side p s) r) (hl : leaf r = true) : p ∧ Res n0 base s r := by
  cases h with
  | refl => cases hl
  | side h1 h2 => exact ⟨h1, h2⟩
theorem res_eqv {x : Int} {k : Int → SR} (h : Res n0 base (.eqv x k) r) (hl : leaf r = true) : Res n0 base (k x) r := by
  cases h with
  | refl => cases hl
  | eqv h1 h2 => subst h1; exact h2
theorem res_ofI {w : Option AV} (h : Res n0 base (ofI w) r) (hl : leaf r = true) : ∃ v, w = some v ∧ r = .reg (.v v) := by
  cases w with
  | none => exact (res_fail h hl).elim
  | some v => cases v with
    | int k x => exact ⟨_, rfl, res_reg (res_eqv h hl)⟩
    | _ => exact ⟨_, rfl, res_reg h⟩
theorem res_sub {l : List AV} {o n : Nat} {k : List AV → SR} (h : Res n0 base (.sub l o n k) r) (hl : leaf r = true) : ∃ l', SubL l o n l' ∧ Res n0 base (k l') r := by
  cases h with
  | refl => cases hl
  | sub h1 h2 => exact ⟨_, h1, h2⟩
theorem res_nat {i : Int} {k : Nat → SR} (h : Res n0 base (.nat i k) r) (hl : leaf r = true) : ∃ m : Nat, i = (m : Int) ∧ Res n0 base (k m) r := by
  cases h with
  | refl => cases hl
  | nat h1 h2 => exact ⟨_, h1, h2⟩
theorem res_byte {s : ByteArray} {i : Int} {k : UInt8 → SR} (h : Res n0 base (.byte s i k) r) (hl : leaf r = true) : ∃ b, s[i.toNat]? = some b ∧ Res n0 base (k b) r := by
  cases h with
  | refl => cases hl
  | byte h1 h2 => exact ⟨_, h1, h2⟩
theorem res_or {a b : SR} (h : Res n0 base (.or a b) r) (hl : leaf r = true) : Res n0 base a r ∨ Res n0 base b r := by
  cases h with
  | refl => cases hl
  | orl h => exact .inl h
  | orr h => exact .inr h
theorem res_withV {v : Option AV} {k : AV → SR} (h : Res n0 base (withV v k) r) (hl : leaf r = true) : ∃ a, v = some a ∧ Res n0 base (k a) r := by
  cases v with
  | none => exact (res_fail h hl).elim
  | some a => exact ⟨a, rfl, h⟩
theorem res_withL {α : Type} {v : Option (List α)} {k : List α → SR} (h : Res n0 base (withL v k) r) (hl : leaf r = true) : ∃ a, v = some a ∧ Res n0 base (k a) r := by
  cases v with
  | none => exact (res_fail h hl).elim
  | some a => exact ⟨a, rfl, h⟩
theorem res_seg {l : List AV} {o : Nat} {k : List AV → SR} (h : Res n0 base (.seg l o k) r) (hl : leaf r = true) : ∃ l', Seg l o l' ∧ Res n0 base (k l') r := by
  cases h with
  | refl => cases hl
  | seg h1 h2 => exact ⟨_, h1, h2⟩
theorem res_ofs {i : Int} {n : Nat} {k : Nat → SR} (h : Res n0 base (.ofs i n k) r) (hl : leaf r = true) : ∃ m : Nat, i = (m : Int) ∧ m < n ∧ Res n0 base (k m) r := by
  cases h with
  | refl => cases hl
  | ofs h1 h2 h3 => exact ⟨_, h1, h2, h3⟩
theorem res_ptr {i : Nat} {kl kb} (h : Res n0 base (.ptr i kl kb) r) (hl : leaf r = true) : (∃ j, i = n0 + j ∧ Res n0 base (kl j) r) ∨ (∃ B, base[i]? = some B ∧ Res n0 base (kb B) r) := by
  cases h with
  | refl => cases hl
  | ptrL h1 h2 => exact .inl ⟨_, h1, h2⟩
  | ptrB h1 h2 => exact .inr ⟨_, h1, h2⟩

theorem nf_ne {v : AV} : nf v = some v := by cases v <;> rfl

theorem leaf_move [Glob] {x : Operand} (ho : o.op = .move x ∨ o.op = .assign x) (h : Res n0 base (moveS (evR top bot x)) r) (hl : leaf r = true) : LeafOk P N n0 base k loc (trE n0 (top ++ bot)) o r := by
  cases he : evR top bot x with
  | none => rw [he] at h; exact (res_fail h hl).elim
  | some v =>
    rw [he] at h
    have := res_reg h
    subst this
    intro hp
    rcases ho with ho | ho
    · exact st_move ho (by rw [evR_ev he]; exact nf_ne)
    · exact st_assign ho (by rw [evR_ev he]; exact nf_ne)

theorem ofV_step [Glob] {w : Option AV} (h : Res n0 base (ofV w) r) (hl : leaf r = true) (hs : ∀ v, w = some v → ∀ hp, Step P N hp (trE n0 (top ++ bot)) o v hp) : LeafOk P N n0 base k loc (trE n0 (top ++ bot)) o r := by
  obtain ⟨v, h1, rfl⟩ := res_ofV h hl
  exact fun hp => hs v h1 hp

theorem ofI_step [Glob] {w : Option AV} (h : Res n0 base (ofI w) r) (hl : leaf r = true) (hs : ∀ v, w = some v → ∀ hp, Step P N hp (trE n0 (top ++ bot)) o v hp) : LeafOk P N n0 base k loc (trE n0 (top ++ bot)) o r := by
  obtain ⟨v, h1, rfl⟩ := res_ofI h hl
  exact fun hp => hs v h1 hp

theorem intS_sound [Glob] {op : BinOp} {t u : TypeId} {x y : Operand} {kk kk' : IntKind} {m n : Int} {s : SR} (ho : o.op = .binOp op t x y u)
    (hx : ev (trE n0 (top ++ bot)) x = .int kk m) (hy : ev (trE n0 (top ++ bot)) y = .int kk' n) (hs : intS op kk m kk' n = some s) (h : Res n0 base s r) (hl : leaf r = true) : LeafOk P N n0 base k loc (trE n0 (top ++ bot)) o r := by
  cases op <;> simp only [intS, reduceCtorEq] at hs
  case quo =>
    cases hk : ikEq kk kk' with
    | false => simp [hk] at hs
    | true =>
      simp only [hk, Option.some.injEq] at hs; subst hs
      obtain rfl := ikEq_spec hk
      obtain ⟨h1, h2⟩ := res_side h hl
      have := res_reg (res_eqv h2 hl); subst this
      exact fun hp => st_quo ho hx hy h1
  case rem =>
    cases hk : ikEq kk kk' with
    | false => simp [hk] at hs
    | true =>
      simp only [hk, Option.some.injEq] at hs; subst hs
      obtain rfl := ikEq_spec hk
      obtain ⟨h1, h2⟩ := res_side h hl
      have := res_reg (res_eqv h2 hl); subst this
      exact fun hp => st_rem ho hx hy h1
  case shl =>
    simp only [Option.some.injEq] at hs; subst hs
    obtain ⟨h1, h2⟩ := res_side h hl
    have := res_reg (res_eqv h2 hl); subst this
    exact fun hp => st_shl ho hx hy h1
  case shr =>
    simp only [Option.some.injEq] at hs; subst hs
    obtain ⟨h1, h2⟩ := res_side h hl
    have := res_reg (res_eqv h2 hl); subst this
    exact fun hp => st_shr ho hx hy h1

theorem leaf_bin [Glob] (hT : TOk P T) (hkq : ∀ t n, kn t = n + 2 → P.stoodInHeld t = false ∧ P.eqGuardType P.depth t = false) {op : BinOp} {t u : TypeId} {x y : Operand} (ho : o.op = .binOp op t x y u) (h : Res n0 base (binS kn T op t (av n0 top bot x) (av n0 top bot y)) r) (hl : leaf r = true) : LeafOk P N n0 base k loc (trE n0 (top ++ bot)) o r := by
  generalize hx : av n0 top bot x = vx at h
  generalize hy : av n0 top bot y = vy at h
  unfold binS at h
  split at h
  · rename_i kk m kk' n
    have hx' := av_ev hx (by simp)
    have hy' := av_ev hy (by simp)
    cases hi : intS op kk m kk' n with
    | some s =>
      simp only [hi] at h
      exact intS_sound ho hx' hy' hi h hl
    | none =>
      simp only [hi] at h
      cases hk : ikEq kk kk' with
      | false => simp only [hk] at h; exact (res_fail h hl).elim
      | true =>
        simp only [hk] at h
        obtain rfl := ikEq_spec hk
        exact ofI_step h hl fun v hv hp => st_int ho hx' hy' hv
  · unfold strS at h
    split at h
    · obtain ⟨h1, h2⟩ := res_side h hl
      have := res_reg h2; subst this
      exact fun hp => st_cat ho (av_ev hx (by simp)) (av_ev hy (by simp)) h1
    · exact ofV_step h hl fun v hv hp => st_str ho (av_ev hx (by simp)) (av_ev hy (by simp)) hv
  · cases hb : isBoolT T t with
    | false => simp only [hb] at h; exact (res_fail h hl).elim
    | true => simp only [hb] at h; exact ofV_step h hl fun v hv hp => st_bool hT ho (av_ev hx (by simp)) (av_ev hy (by simp)) hb hv
  · split at h
    · rename_i q hq
      split at h
      · rename_i b hb
        split at h
        · have := res_reg h; subst this
          exact fun hp => st_eqAgg hT hkq (.inl rfl) ho (av_ev hx (by simp)) (av_ev hy (by simp)) hq hb
        · have := res_reg h; subst this
          exact fun hp => st_eqAgg hT hkq (.inr rfl) ho (av_ev hx (by simp)) (av_ev hy (by simp)) hq hb
        · exact (res_fail h hl).elim
      · exact (res_fail h hl).elim
    · exact (res_fail h hl).elim
  · exact (res_fail h hl).elim

theorem leaf_field [Glob] (hT : TOk P T) {s : TypeId} {x : Operand} {f : Nat} (ho : o.op = .fieldAddr s x f) (h : Res n0 base (fieldS T s f (evR top bot x)) r) (hl : leaf r = true) : LeafOk P N n0 base k loc (trE n0 (top ++ bot)) o r := by
  cases he : evR top bot x with
  | none => rw [he] at h; exact (res_fail h hl).elim
  | some v =>
    rw [he] at h
    have hx := evR_ev (n0 := n0) he
    cases v with
    | lp j k =>
      simp only [fieldS] at h
      cases hs : T s with
      | none => simp only [hs] at h; exact (res_fail h hl).elim
      | some ti =>
        simp only [hs] at h
        split at h
        · rename_i fs hk
          split at h
          · rename_i hlg
            have := res_reg h; subst this
            exact fun hp => st_fieldAddr hT ho hs hk hlg hx
          · exact (res_fail h hl).elim
        · exact (res_fail h hl).elim
    | v a =>
      simp only [fieldS] at h
      refine ofV_step h hl fun v hv hp => ?_
      refine stepV_sound hT ho ?_
      simp only [stepV]
      rw [hx]
      exact hv
    | lit b => exact (res_fail h hl).elim

theorem leaf_load [Glob] (hT : TOk P T) {t : TypeId} {x : Operand} (hn : base.length = n0) (ho : o.op = .load t x) (h : Res n0 base (loadS T t loc (evR top bot x)) r) (hl : leaf r = true) : LeafOk P N n0 base k loc (trE n0 (top ++ bot)) o r := by
  have key : ∀ (i o' : Nat) (u : TypeId) (l l' : List AV) (ti : TI), ev (trE n0 (top ++ bot)) x = .ptr i o' → (base ++ loc)[i]? = some (.box u l) → dropC o' l = some l' → T t = some ti → Res n0 base (memV (loadC ti l')) r → LeafOk P N n0 base k loc (trE n0 (top ++ bot)) o r := by
    intro i o' u l l' ti hx hat hd ht h
    obtain ⟨v, h1, rfl⟩ := res_memV h hl
    intro X
    refine st_load hT ho ht hx (u := u) (l := l) ?_ hd h1
    unfold At Hp.all
    simp only
    rw [← List.append_assoc, List.getElem?_append_left (List.getElem?_eq_some_iff.1 hat).1, hat]
  have keyL : ∀ (j o' : Nat), ev (trE n0 (top ++ bot)) x = .ptr (n0 + j) o' → Res n0 base (match lget loc j with
      | some (.box _ l) => match dropC o' l with
        | some l' => match T t with
          | some ti => memV (loadC ti l')
          | none => .fail
        | none => .fail
      | _ => .fail) r → LeafOk P N n0 base k loc (trE n0 (top ++ bot)) o r := by
    intro j o' hx h
    split at h
    · rename_i u l hg
      split at h
      · rename_i l' hd
        split at h
        · rename_i ti ht
          refine key (n0 + j) o' u l l' ti hx ?_ hd ht h
          rw [lget_eq] at hg
          rw [List.getElem?_append_right (by omega), hn, Nat.add_sub_cancel_left, hg]
        · exact (res_fail h hl).elim
      · exact (res_fail h hl).elim
    · exact (res_fail h hl).elim
  cases he : evR top bot x with
  | none => rw [he] at h; exact (res_fail h hl).elim
  | some v =>
    rw [he] at h
    have hx := evR_ev (n0 := n0) he
    cases v with
    | lp j o' => exact keyL j o' hx h
    | lit b => exact (res_fail h hl).elim
    | v a =>
      cases a <;> simp only [loadS] at h <;> try exact (res_fail h hl).elim
      case ptr i o' =>
        rcases res_ptr h hl with ⟨j, rfl, h3⟩ | ⟨B, hb, h3⟩
        · exact keyL j o' hx h3
        · split at h3
          · rename_i u l
            split at h3
            · rename_i l' hd
              split at h3
              · rename_i ti ht
                refine key i o' u l l' ti hx ?_ hd ht h3
                rw [List.getElem?_append_left (List.getElem?_eq_some_iff.1 hb).1, hb]
              · exact (res_fail h3 hl).elim
            · exact (res_fail h3 hl).elim
          · exact (res_fail h3 hl).elim
      case rptr l =>
        split at h
        · rename_i ti ht
          obtain ⟨v, h1, rfl⟩ := res_memV h hl
          exact fun X => st_load_r hT ho ht hx h1
        · exact (res_fail h hl).elim

theorem leaf_store [Glob] (hT : TOk P T) {t : TypeId} {x y : Operand} (hn : base.length = n0) (ho : o.op = .store t x y) (h : Res n0 base (storeS T t loc (evR top bot x) (avF n0 top bot y)) r) (hl : leaf r = true) : LeafOk P N n0 base k loc (trE n0 (top ++ bot)) o r := by
  unfold storeS at h
  cases hey : avF n0 top bot y with
  | none => simp only [hey] at h; exact (res_fail h hl).elim
  | some vy =>
  simp only [hey] at h
  split at h
  · exact (res_fail h hl).elim
  rename_i vs hvs
  obtain ⟨hc, hone⟩ := cellsS_spec hvs
  have hy : ev (trE n0 (top ++ bot)) y = vy := av_ev (avF_av hey) (by rintro rfl; cases hvs)
  split at h
  · exact (res_fail h hl).elim
  rename_i ti ht
  split at h
  · exact (res_fail h hl).elim
  rename_i hsz
  have keyL : ∀ (j o' : Nat), ev (trE n0 (top ++ bot)) x = .ptr (n0 + j) o' → Res n0 base (match lget loc j with
            | some (.box u l) => match setC l o' vs with
              | some l' => .upd j (.box u l') none
              | none => .fail
            | _ => .fail) r → LeafOk P N n0 base k loc (trE n0 (top ++ bot)) o r := by
    intro j o' hx h
    split at h
    · rename_i u l hg
      split at h
      · rename_i l' hs
        have : r = .upd j (.box u l') none := by cases h; rfl
        subst this
        intro loc' hloc'
        refine st_store hT ho ht hx (u := u) (l := l) ?_ hy hc hone hsz hs ?_
        · rw [← hn]; exact at_loc hg
        · rw [← hn]; exact put_loc hloc'
      · exact (res_fail h hl).elim
    · exact (res_fail h hl).elim
  split at h
  · rename_i j o' hex
    exact keyL j o' (evR_ev hex) h
  · rename_i i o' hex
    have hx := evR_ev (n0 := n0) hex
    rcases res_ptr h hl with ⟨j, rfl, h3⟩ | ⟨B, hb, h3⟩
    · exact keyL j o' hx h3
    · split at h3
      · rename_i u l
        split at h3
        · rename_i l' hs
          have : r = .updB i (.box u l') none := by cases h3; rfl
          subst this
          exact st_store hT ho ht hx (at_base hb) hy hc hone hsz hs (put_base hb)
        · exact (res_fail h3 hl).elim
      · exact (res_fail h3 hl).elim
  · exact (res_fail h hl).elim

theorem leaf_alloc [Glob] (hT : TOk P T) {t : TypeId} (ho : o.op = .alloc t) (h : Res n0 base (allocS T t) r) (hl : leaf r = true) : LeafOk P N n0 base k loc (trE n0 (top ++ bot)) o r := by
  unfold allocS at h
  split at h
  · rename_i ti ht
    split at h
    · rename_i z hz
      have : r = .box t z := by cases h; rfl
      subst this
      intro g w a hE
      obtain ⟨d, i, h1, h2, h3, h4, h5, h6⟩ := tiOf_some (hT _ _ ht)
      rw [hz] at h6
      cases hiz : i.zero with
      | none => rw [hiz] at h6; cases h6
      | some zv =>
      rw [hiz] at h6
      simp only [Option.map_some, Option.some.injEq] at h6
      refine ⟨t, z, zv.cells, rfl, by rw [h6]; exact av1s_rel g w _, ?_⟩
      simp [execOp, ho, Instr.alloc, zeroValue, typeInfo, h2, hiz, newVar, newRow]
    · exact (res_fail h hl).elim
  · exact (res_fail h hl).elim

theorem leaf_box [Glob] {t : TypeId} {x : Operand} (ho : o.op = .box t x) (h : Res n0 base (boxS t (av n0 top bot x)) r) (hl : leaf r = true) : LeafOk P N n0 base k loc (trE n0 (top ++ bot)) o r := by
  unfold boxS at h
  split at h
  · rename_i l hb
    have : r = .box t l := by cases h; rfl
    subst this
    obtain ⟨hc, hone⟩ := boxC_spec hb
    intro g w a hE
    have hx : ev (trE n0 (top ++ bot)) x = av n0 top bot x := av_ev rfl (by intro e; rw [e] at hb; cases hb)
    have hr := ev_rel hE x
    rw [hx] at hr
    refine ⟨t, l, (a.eval x).cells, rfl, by rw [← hc]; exact hr.cells hone, ?_⟩
    simp [execOp, ho, Instr.box, newVar, newRow]
  · exact (res_fail h hl).elim

theorem leaf_index [Glob] (hT : TOk P T) {t : TypeId} {x y : Operand} (ho : o.op = .indexAddr t x y) (h : Res n0 base (indexS T t (evR top bot x) (av n0 top bot y)) r) (hl : leaf r = true) : LeafOk P N n0 base k loc (trE n0 (top ++ bot)) o r := by
  unfold indexS at h
  split at h
  · rename_i kk i hy
    have hy := av_ev hy (by simp)
    split at h
    · rename_i ti ht
      split at h
      · rename_i e hk
        split at h
        · rename_i ei he
          split at h
          · rename_i b o' n hex
            have hx := evR_ev (n0 := n0) hex
            rcases res_ptr h hl with ⟨j, rfl, h'⟩ | ⟨B, -, h'⟩
            · obtain ⟨m, rfl, h2, h3⟩ := res_ofs h' hl
              have := res_reg h3; subst this
              exact fun hp => st_index_ms hT ho ht hk he hx hy (by omega) (by omega)
            · obtain ⟨m, rfl, h2, h3⟩ := res_ofs h' hl
              have := res_reg h3; subst this
              exact fun hp => st_index_ms hT ho ht hk he hx hy (by omega) (by omega)
          · rename_i a _ hex
            have hx := evR_ev (n0 := n0) hex
            split at h
            · rename_i n l hs
              obtain ⟨h1, h2⟩ := res_side h hl
              obtain ⟨l', h3, h4⟩ := res_seg h2 hl
              obtain ⟨h5, h6⟩ := res_side h4 hl
              have := res_reg h6; subst this
              exact fun hp => st_indexS hT ho ht hk he (by rw [hx]; exact hs) hy h1.1 h1.2 h3 h5
            · exact (res_fail h hl).elim
          · exact (res_fail h hl).elim
        · exact (res_fail h hl).elim
      · rename_i n e hk
        split at h
        · rename_i ei he
          split at h
          · rename_i j o' hex
            have hx := evR_ev (n0 := n0) hex
            obtain ⟨m, rfl, h2, h3⟩ := res_ofs h hl
            have := res_reg h3; subst this
            exact fun hp => st_indexAddr_arr hT ho ht hk he hx hy (by omega) (by omega)
          · rename_i b o' hex
            have hx := evR_ev (n0 := n0) hex
            obtain ⟨m, rfl, h2, h3⟩ := res_ofs h hl
            have := res_reg h3; subst this
            exact fun hp => st_indexAddr_arr hT ho ht hk he hx hy (by omega) (by omega)
          · rename_i l hex
            have hx := evR_ev (n0 := n0) hex
            obtain ⟨h1, h2⟩ := res_side h hl
            obtain ⟨l', h3, h4⟩ := res_seg h2 hl
            have := res_reg h4; subst this
            exact fun hp => st_indexAddr_arr_r hT ho ht hk he hx hy h1.1 h1.2 h3
          · exact (res_fail h hl).elim
        · exact (res_fail h hl).elim
      · exact (res_fail h hl).elim
    · exact (res_fail h hl).elim
  · exact (res_fail h hl).elim

/-- plain values of operands: they are known, or nothing is known of them -/
theorem av_wk [Glob] {g : G} {w : World} {a : Act} (hE : ERel N g w (trE n0 (top ++ bot)) a) (x : Operand) : VRel g w (av n0 top bot x) (a.eval x) := by
  unfold av
  cases he : evR top bot x with
  | none => simp [VRel]
  | some v =>
    simp only
    rw [← evR_ev he]
    exact ev_rel hE x
theorem avL_rel [Glob] {g : G} {w : World} {a : Act} (hE : ERel N g w (trE n0 (top ++ bot)) a) : ∀ l : List Operand, LRel g w (avL n0 top bot l) (l.map a.eval)
  | [] => by simp [LRel, avL]
  | x :: l => by
    simp only [List.map_cons, avL, LRel]
    exact ⟨_, _, rfl, av_wk hE x, avL_rel hE l⟩
theorem avP_map [Glob] : ∀ l : List (Nat × Operand), avP n0 top bot l = l.map fun p => (p.1, av n0 top bot p.2)
  | [] => rfl
  | (i, x) :: l => by simp [avP, avP_map l]
theorem avP_rel [Glob] {g : G} {w : World} {a : Act} (hE : ERel N g w (trE n0 (top ++ bot)) a) (parts : List (Nat × Operand)) : ∀ (j : Nat) p q, (avP n0 top bot parts)[j]? = some p → (parts.map fun (p : Nat × Operand) => (p.1, a.eval p.2))[j]? = some q → p.1 = q.1 ∧ VRel g w p.2 q.2 := by
  intro j p q h1 h2
  rw [avP_map] at h1
  simp only [List.getElem?_map, Option.map_eq_some_iff] at h1 h2
  obtain ⟨x, hx, rfl⟩ := h1
  obtain ⟨y, hy, rfl⟩ := h2
  rw [hx] at hy
  cases hy
  exact ⟨rfl, av_wk hE _⟩
theorem allOA_ev [Glob] : ∀ {l : List (Nat × Operand)}, allOA (avP n0 top bot l) = true → evParts (trE n0 (top ++ bot)) l = avP n0 top bot l
  | [], _ => rfl
  | (i, x) :: l, h => by
    simp only [avP, allOA] at h
    simp only [avP, evParts]
    cases hv : oneOrAgg (av n0 top bot x) with
    | false => simp [hv] at h
    | true =>
      simp only [hv] at h
      rw [allOA_ev h, av_ev rfl (by intro e; rw [e] at hv; cases hv)]

theorem leaf_build [Glob] (hT : TOk P T) (hkn : ∀ t n, kn t = n + 1 → fieldsKnown P t = true) {t : TypeId} {ps : List (Nat × Operand)} (ho : o.op = .build t ps.toArray) (h : Res n0 base (buildS T t kn (avP n0 top bot ps)) r) (hl : leaf r = true) : LeafOk P N n0 base k loc (trE n0 (top ++ bot)) o r := by
  unfold buildS at h
  split at h
  · exact (res_fail h hl).elim
  rename_i h1
  split at h
  · rename_i ti ht
    split at h
    · rename_i z hz
      split at h
      · rename_i fs hk
        split at h
        · rename_i hknt
          split at h
          · rename_i l hfill
            have := res_reg h; subst this
            rw [← allOA_ev h1] at hfill
            exact fun hp => st_build hT ho ht hk hz (hkn _ _ hknt) (by rw [allOA_ev h1]; exact h1) hfill
          · exact (res_fail h hl).elim
        · exact (res_fail h hl).elim
      · rename_i n e hk
        split at h
        · rename_i ei he
          split at h
          · rename_i l hfill
            have := res_reg h; subst this
            rw [← allOA_ev h1] at hfill
            exact fun hp => st_buildArr hT ho ht hk he hz (by rw [allOA_ev h1]; exact h1) hfill
          · exact (res_fail h hl).elim
        · exact (res_fail h hl).elim
      · exact (res_fail h hl).elim
    · exact (res_fail h hl).elim
  · exact (res_fail h hl).elim

theorem leaf_buildSlice [Glob] (hT : TOk P T) {t : TypeId} {n : Nat} {ps : List (Nat × Operand)} (ho : o.op = .buildSlice t n ps.toArray) (h : Res n0 base (buildSliceS T t n (avP n0 top bot ps)) r) (hl : leaf r = true) : LeafOk P N n0 base k loc (trE n0 (top ++ bot)) o r := by
  unfold buildSliceS at h
  split at h
  · exact (res_fail h hl).elim
  rename_i h1
  split at h
  · rename_i ti ht
    split at h
    · rename_i e hk
      split at h
      · rename_i ei he
        split at h
        · rename_i z hz
          split at h
          · rename_i hzl
            split at h
            · rename_i hsm
              split at h
              case h_2 => exact (res_fail h hl).elim
              rename_i zs hzs
              have hzs := repO_eq hzs
              subst hzs
              split at h
              · rename_i l hfill
                have := res_mem h; subst this
                rw [← allOA_ev h1] at hfill
                exact fun X => st_buildSliceX hT ho ht hk he hz hzl hsm (by rw [allOA_ev h1]; exact h1) hfill
              · exact (res_fail h hl).elim
            · exact (res_fail h hl).elim
          · exact (res_fail h hl).elim
        · exact (res_fail h hl).elim
      · exact (res_fail h hl).elim
    · exact (res_fail h hl).elim
  · exact (res_fail h hl).elim

theorem leaf_fieldPart [Glob] (hT : TOk P T) {s : TypeId} {x : Operand} {f : Nat} (ho : o.op = .field s x f) (h : Res n0 base (ofV (fieldPartV T s f (av n0 top bot x))) r) (hl : leaf r = true) : LeafOk P N n0 base k loc (trE n0 (top ++ bot)) o r := by
  refine ofV_step h hl fun v hv hp => ?_
  generalize hx : av n0 top bot x = vx at hv
  unfold fieldPartV at hv
  split at hv
  · have hx' := av_ev hx (by simp)
    split at hv
    · rename_i ti ht
      split at hv
      · rename_i fs hk
        split at hv
        · rename_i hlg
          split at hv
          · rename_i fi hfi
            split at hv
            · rename_i l' hd
              exact st_field hT ho ht hk hlg hx' hfi hd hv
            · cases hv
          · cases hv
        · cases hv
      · cases hv
    · cases hv
  · cases hv

theorem leaf_func [Glob] {F : FuncId} {fs cs : List Operand} (ho : o.op = .makeFunc (.func F) fs.toArray cs.toArray) (h : Res n0 base (.reg (.v (.clo (.func F) (avL n0 top bot fs) (avL n0 top bot cs)))) r) : LeafOk P N n0 base k loc (trE n0 (top ++ bot)) o r := by
  have := res_reg h; subst this
  refine fun hp => Step.pure fun g w a _ hE => ?_
  refine ⟨.func (.func F) (fs.map a.eval).toArray (cs.map a.eval).toArray, ?_, ?_⟩
  · simp [execOp, ho, Instr.makeFunc]
  · simp only [tr, VRel]
    exact ⟨⟨trivial, trivial⟩, _, _, rfl, avL_rel hE fs, avL_rel hE cs⟩

theorem leaf_nil [Glob] {x : Operand} (ho : o.op = .nilCheck x) (h : Res n0 base (nilS (evR top bot x)) r) (hl : leaf r = true) : LeafOk P N n0 base k loc (trE n0 (top ++ bot)) o r := by
  unfold nilS at h
  split at h
  · rename_i j o' hex
    have := res_reg h; subst this
    exact fun hp => st_nilcheck ho (evR_ev hex)
  · rename_i hex
    have := res_reg h; subst this
    exact fun hp => st_nilcheck ho (evR_ev (n0 := n0) hex)
  · rename_i hex
    have := res_reg h; subst this
    exact fun hp => st_nilcheck_r ho (evR_ev (n0 := n0) hex)
  · rename_i hex
    obtain ⟨hfn, h⟩ := res_side h hl
    have := res_reg h; subst this
    exact fun hp => st_nilcheck_f hfn ho (evR_ev (n0 := n0) hex)
  · exact (res_fail h hl).elim
theorem leaf_not [Glob] {t : TypeId} {x : Operand} (ho : o.op = .unOp .not t x) (h : Res n0 base (notS (av n0 top bot x)) r) (hl : leaf r = true) : LeafOk P N n0 base k loc (trE n0 (top ++ bot)) o r := by
  unfold notS at h
  split at h
  · rename_i b hx
    have := res_reg h; subst this
    exact fun hp => st_not ho (av_ev hx (by simp))
  · exact (res_fail h hl).elim
theorem leaf_neg [Glob] {t : TypeId} {x : Operand} (ho : o.op = .unOp .neg t x) (h : Res n0 base (negS (av n0 top bot x)) r) (hl : leaf r = true) : LeafOk P N n0 base k loc (trE n0 (top ++ bot)) o r := by
  unfold negS at h
  split at h
  · rename_i kk n hx
    have := res_reg (res_eqv h hl); subst this
    exact fun hp => st_neg ho (av_ev hx (by simp))
  · exact (res_fail h hl).elim
theorem leaf_com [Glob] {t : TypeId} {x : Operand} (ho : o.op = .unOp .xor t x) (h : Res n0 base (comS (av n0 top bot x)) r) (hl : leaf r = true) : LeafOk P N n0 base k loc (trE n0 (top ++ bot)) o r := by
  unfold comS at h
  split at h
  · rename_i kk n hx
    have := res_reg (res_eqv h hl); subst this
    exact fun hp => st_com ho (av_ev hx (by simp))
  · exact (res_fail h hl).elim
theorem leaf_extract [Glob] {x : Operand} {i : Nat} (ho : o.op = .extract x i) (h : Res n0 base (extractS i (av n0 top bot x)) r) (hl : leaf r = true) : LeafOk P N n0 base k loc (trE n0 (top ++ bot)) o r := by
  unfold extractS at h
  split at h
  · rename_i l hx
    split at h
    · rename_i v hv
      have := res_reg h; subst this
      exact fun hp => st_extract ho (av_ev hx (by simp)) hv
    · exact (res_fail h hl).elim
  · exact (res_fail h hl).elim
theorem leaf_call [Glob] {f : Operand} {xs : List Operand} (h : Res n0 base (callS (avL n0 top bot xs) (av n0 top bot f)) r) (_hl : leaf r = true) :
    ∃ F as, r = .call F as ∧ ∃ fs cs, ev (trE n0 (top ++ bot)) f = .clo F fs cs ∧ (fs ++ avL n0 top bot xs) ++ cs = as := by
  unfold callS at h
  split at h
  · rename_i F fs cs hf
    have : r = .call F (appL (appL fs (avL n0 top bot xs)) cs) := by cases h; rfl
    subst this
    exact ⟨_, _, rfl, fs, cs, av_ev hf (by simp), by rw [appL_eq, appL_eq]⟩
  · exact (res_fail h _hl).elim
theorem avF_ev [Glob] {x : Operand} {a : AV} (h : avF n0 top bot x = some a) : ev (trE n0 (top ++ bot)) x = a := by
  unfold avF at h
  cases he : evR top bot x with
  | none => simp [he] at h
  | some v =>
    rw [evR_ev he]
    cases v <;> simp only [he, Option.some.injEq] at h <;> subst h <;> rfl
theorem res_rel {S : List AV → List AV → Prop} {k : List AV → List AV → SR} (h : Res n0 base (.rel S k) r) (hl : leaf r = true) : ∃ a b, S a b ∧ Res n0 base (k a b) r := by
  cases h with
  | refl => cases hl
  | rel h1 h2 => exact ⟨_, _, h1, h2⟩
theorem leaf_makeMap [Glob] (hn : base.length = n0) {t : TypeId} (ho : o.op = .makeMap t none) (h : Res n0 base (.blk (.mp [] []) fun k => .v (.mp (n0 + k))) r) : LeafOk P N n0 base k loc (trE n0 (top ++ bot)) o r := by
  have : r = .blk (.mp [] []) fun k => .v (.mp (n0 + k)) := by cases h; rfl
  subst this
  subst hn
  exact st_makeMap ho
theorem leaf_look [Glob] (hT : TOk P T) (hkn : ∀ t n, kn t = n + 2 → P.stoodInHeld t = false ∧ P.eqGuardType P.depth t = false) (hzr : ∀ t ti, T t = some ti → zeroShape P t = true) (hn : base.length = n0) {t : TypeId} {x y : Operand} {ok : Bool} {kv : AV} (ho : o.op = .lookup t x y ok) (hkv : ev (trE n0 (top ++ bot)) y = kv) (h : Res n0 base (lookupS kn T t loc ok (av n0 top bot x) kv) r) (hl : leaf r = true) : LeafOk P N n0 base k loc (trE n0 (top ++ bot)) o r := by
  unfold lookupS at h
  split at h
  case h_2 => exact (res_fail h hl).elim
  rename_i ti ht
  split at h
  case h_2 => exact (res_fail h hl).elim
  rename_i kt et hk
  split at h
  case h_2 => exact (res_fail h hl).elim
  rename_i ei het
  have look : ∀ {ks vs : List AV}, Res n0 base (lookR kn T kt ei ok kv ks vs) r → (∀ X : Heap, MapAt ⟨base, k + X.length, loc ++ X⟩ (ev (trE n0 (top ++ bot)) x) ks vs ∨ (ev (trE n0 (top ++ bot)) x = .nilm ∧ ks = [] ∧ vs = [])) → LeafOk P N n0 base k loc (trE n0 (top ++ bot)) o r := by
    intro ks vs h hm
    unfold lookR at h
    obtain ⟨a, b, ⟨⟨b', hs⟩, hlk⟩, h⟩ := res_rel h hl
    split at h
    case h_2 => exact (res_fail h hl).elim
    rename_i v fd hv
    have key : ∀ X : Heap, Step P N ⟨base, k + X.length, loc ++ X⟩ (trE n0 (top ++ bot)) o (if ok = true then .tup [v, .bool fd] else v) ⟨base, k + X.length, loc ++ X⟩ :=
      fun X => st_lookup hT hkn ho ht hk het (hzr _ _ het) (hm X) hkv hs hlk hv
    split at h
    · have := res_mem h; subst this
      exact fun X => key X
    · have := res_mem h; subst this
      exact fun X => key X
  split at h
  · rename_i i hx
    have hx' := av_ev hx (by simp)
    rcases res_ptr h hl with ⟨j, hij, h2⟩ | ⟨B, hB, h2⟩
    · split at h2
      case h_2 => exact (res_fail h2 hl).elim
      rename_i ks vs hj
      refine look h2 fun X => .inl (.inl ⟨_, hx', ?_⟩)
      subst hn hij
      have : At ⟨base, k, loc⟩ (base.length + j) (.mp ks vs) := at_loc hj
      exact at_ext this X
    · split at h2
      case h_2 => exact (res_fail h2 hl).elim
      rename_i ks vs
      exact look h2 fun X => .inl (.inl ⟨_, hx', at_base hB⟩)
  · rename_i ks vs hx
    exact look h fun X => .inl (.inr (av_ev hx (by simp)))
  · rename_i hx
    exact look h fun X => .inr ⟨av_ev hx (by simp), rfl, rfl⟩
  · exact (res_fail h hl).elim
theorem leaf_put [Glob] (hT : TOk P T) (hkn : ∀ t n, kn t = n + 2 → P.stoodInHeld t = false ∧ P.eqGuardType P.depth t = false) (hn : base.length = n0) {t : TypeId} {x y z : Operand} {kv v : AV} (ho : o.op = .mapUpdate t x y z ∨ o.op = .insert t x y z) (hkv : ev (trE n0 (top ++ bot)) y = kv) (hvj : ev (trE n0 (top ++ bot)) z = v) (h : Res n0 base (mapPutS kn T t loc (av n0 top bot x) kv v) r) (hl : leaf r = true) : LeafOk P N n0 base k loc (trE n0 (top ++ bot)) o r := by
  unfold mapPutS at h
  split at h
  case h_2 => exact (res_fail h hl).elim
  rename_i ti ht
  split at h
  case h_2 => exact (res_fail h hl).elim
  rename_i kt et hk
  split at h
  case h_2 => exact (res_fail h hl).elim
  rename_i i hx
  have hx' := av_ev hx (by simp)
  split at h
  case h_2 => exact (res_fail h hl).elim
  rename_i hpl
  rcases res_ptr h hl with ⟨j, hij, h2⟩ | ⟨B, hB, h2⟩
  · split at h2
    case h_2 => exact (res_fail h2 hl).elim
    rename_i ks vs hj
    obtain ⟨ks', vs', ⟨⟨b', hs⟩, hp⟩, h3⟩ := res_rel h2 hl
    have : r = .upd j (.mp ks' vs') none := by cases h3; rfl
    subst this
    intro loc' hset
    subst hn hij
    exact st_put hT hkn ho ht hk hx' (at_loc hj) hkv hvj hpl hs hp (put_loc hset)
  · split at h2
    case h_2 => exact (res_fail h2 hl).elim
    rename_i ks vs
    obtain ⟨ks', vs', ⟨⟨b', hs⟩, hp⟩, h3⟩ := res_rel h2 hl
    have : r = .updB i (.mp ks' vs') none := by cases h3; rfl
    subst this
    exact st_put hT hkn ho ht hk hx' (at_base hB) hkv hvj hpl hs hp (put_base hB)

theorem leaf_mapOf [Glob] (hn : base.length = n0) {m : AV} {kk : List AV → List AV → SR} (h : Res n0 base (mapOfS loc m kk) r) (hl : leaf r = true) :
    ∃ ks vs, Res n0 base (kk ks vs) r ∧ ∀ X : Heap, MapAt ⟨base, k + X.length, loc ++ X⟩ m ks vs := by
  unfold mapOfS at h
  split at h
  · rename_i i
    rcases res_ptr h hl with ⟨j, hij, h2⟩ | ⟨B, hB, h2⟩
    · split at h2
      case h_2 => exact (res_fail h2 hl).elim
      rename_i ks vs hj
      refine ⟨ks, vs, h2, fun X => .inl ⟨_, rfl, ?_⟩⟩
      subst hn hij
      have : At ⟨base, k, loc⟩ (base.length + j) (.mp ks vs) := at_loc hj
      exact at_ext this X
    · split at h2
      case h_2 => exact (res_fail h2 hl).elim
      rename_i ks vs
      exact ⟨ks, vs, h2, fun X => .inl ⟨_, rfl, at_base hB⟩⟩
  · rename_i ks vs
    exact ⟨ks, vs, h, fun X => .inr rfl⟩
  · exact (res_fail h hl).elim
theorem leaf_range [Glob] (hT : TOk P T) (hn : base.length = n0) {t : TypeId} {x : Operand} (ho : o.op = .range t x) (h : Res n0 base (rangeS T t loc (av n0 top bot x)) r) (hl : leaf r = true) : LeafOk P N n0 base k loc (trE n0 (top ++ bot)) o r := by
  unfold rangeS at h
  split at h
  case h_2 => exact (res_fail h hl).elim
  rename_i ti ht
  split at h
  case h_2 => exact (res_fail h hl).elim
  rename_i kt et hk
  have hx : ev (trE n0 (top ++ bot)) x = av n0 top bot x := av_ev rfl (fun e => by rw [e] at h; exact res_fail h hl)
  obtain ⟨ks, vs, h2, hm⟩ := leaf_mapOf (k := k) hn h hl
  have : r = .blk (.it (av n0 top bot x) ks.length []) fun k => .lp k 0 := by cases h2; rfl
  subst this
  subst hn
  have h0 := hm []
  simp only [List.length_nil, Nat.add_zero, List.append_nil] at h0
  exact st_range hT ho ht hk hx h0
theorem leaf_next [Glob] (hn : base.length = n0) {x : Operand} (ho : o.op = .next x false) (h : Res n0 base (nextS loc (evR top bot x)) r) (hl : leaf r = true) : LeafOk P N n0 base k loc (trE n0 (top ++ bot)) o r := by
  unfold nextS at h
  split at h
  case h_2 => exact (res_fail h hl).elim
  rename_i j o' he
  split at h
  case h_2 => exact (res_fail h hl).elim
  split at h
  case h_2 => exact (res_fail h hl).elim
  rename_i src n seen hj
  have hx := evR_ev (n0 := n0) he
  have hxs : ∃ ks vs, Res n0 base (.side (ks.length = n) (.anyU j (NextS src n seen ks vs))) r ∧ ∀ X : Heap, MapAt ⟨base, k + X.length, loc ++ X⟩ src ks vs := by
    exact leaf_mapOf (k := k) hn h hl
  obtain ⟨ks, vs, h2, hm⟩ := hxs
  obtain ⟨hlen, h3⟩ := res_side h2 hl
  have : r = .anyU j (NextS src n seen ks vs) := by cases h3; rfl
  subst this
  subst hn
  have h0 := hm []
  simp only [List.length_nil, Nat.add_zero, List.append_nil] at h0
  intro g w a hH hE
  exact st_next ho hx hj hlen h0 hH hE
theorem leaf_entry [Glob] (hn : base.length = n0) {x : Operand} (ho : o.op = .entry x) (h : Res n0 base (entryS loc (evR top bot x)) r) (hl : leaf r = true) : LeafOk P N n0 base k loc (trE n0 (top ++ bot)) o r := by
  unfold entryS at h
  split at h
  case h_2 => exact (res_fail h hl).elim
  rename_i j o' he
  split at h
  case h_2 => exact (res_fail h hl).elim
  split at h
  case h_2 => exact (res_fail h hl).elim
  rename_i src n seen hj
  have hx := evR_ev (n0 := n0) he
  have hxs : ∃ ks vs, Res n0 base (.rel (EntryS n seen ks vs) fun a _ => .mem (.v (.tup a))) r ∧ ∀ X : Heap, MapAt ⟨base, k + X.length, loc ++ X⟩ src ks vs := by
    exact leaf_mapOf (k := k) hn h hl
  obtain ⟨ks, vs, h2, hm⟩ := hxs
  obtain ⟨a, b, ⟨hlen, -, s, e, kv, vv, rfl, hk, hv, rfl⟩, h3⟩ := res_rel h2 hl
  have := res_mem h3; subst this
  subst hn
  intro X
  have : At ⟨base, k, loc⟩ (base.length + j) (.it src n (s ++ [e])) := at_loc hj
  exact st_entry ho hx (at_ext this X) hlen (hm X) hk hv

theorem leaf_len [Glob] (hT : TOk P T) {t : TypeId} {x : Operand} (ho : o.op = .call { callee := .builtin .len, args := #[x], argTypes := #[t] }) (h : Res n0 base (lenS T t (av n0 top bot x)) r) (hl : leaf r = true) : LeafOk P N n0 base k loc (trE n0 (top ++ bot)) o r := by
  unfold lenS at h
  split at h
  · rename_i ti ht
    split at h
    · rename_i e hk
      split at h
      · rename_i b o' n hx
        have := res_reg h; subst this
        exact fun hp => st_len_ms hT ho ht hk (av_ev hx (by simp))
      · split at h
        · rename_i n l hs
          have := res_reg h; subst this
          exact fun hp => st_lenS (l := l) hT ho ht hk (by rw [av_ev rfl (by intro e; rw [e] at hs; cases hs)]; exact hs)
        · exact (res_fail h hl).elim
    · rename_i hk
      split at h
      · rename_i s hx
        have := res_reg h; subst this
        exact fun hp => st_len_str hT ho ht hk (av_ev hx (by simp))
      · exact (res_fail h hl).elim
    · rename_i kt et hk
      split at h
      · rename_i ks vs hx
        have := res_reg h; subst this
        exact fun hp => st_len_mp hT ho ht hk (av_ev hx (by simp))
      · exact (res_fail h hl).elim
    · exact (res_fail h hl).elim
  · exact (res_fail h hl).elim

theorem bd_of [Glob] {x : Option Operand} {d : Nat} {kk : Nat → SR} (h : Res n0 base (bdS (avO n0 top bot x) d kk) r) (hl : leaf r = true) : ∃ m, Bd (trE n0 (top ++ bot)) x d m ∧ Res n0 base (kk m) r := by
  cases x with
  | none => exact ⟨d, rfl, h⟩
  | some y =>
    simp only [avO, bdS] at h
    generalize hy : av n0 top bot y = vy at h
    cases vy <;> simp only at h <;> try exact (res_fail h hl).elim
    obtain ⟨m, rfl, h2⟩ := res_nat h hl
    exact ⟨m, ⟨_, av_ev hy (by simp)⟩, h2⟩

theorem leaf_slice [Glob] (hT : TOk P T) {t : TypeId} {x : Operand} {low high max : Option Operand} (ho : o.op = .slice t x low high max) (h : Res n0 base (sliceS T t (av n0 top bot x) (avO n0 top bot low) (avO n0 top bot high) (avO n0 top bot max)) r) (hl : leaf r = true) : LeafOk P N n0 base k loc (trE n0 (top ++ bot)) o r := by
  generalize hx : av n0 top bot x = a at h
  unfold sliceS at h
  split at h
  · rename_i ti ht
    split at h
    · rename_i e hk
      split at h
      · rename_i ei he
        split at h
        · rename_i n l hs
          have hx' := av_ev hx (by rintro rfl; cases hs)
          split at h
          · rename_i hmx
            have : max = none := by cases max <;> simp [avO] at hmx; rfl
            subst this
            obtain ⟨lo, hlo, h⟩ := bd_of h hl
            obtain ⟨hi, hhi, h⟩ := bd_of h hl
            obtain ⟨h1, h⟩ := res_side h hl
            obtain ⟨l', h2, h⟩ := res_sub h hl
            have := res_reg h; subst this
            exact fun hp => st_sliceS hT ho ht hk he (by rw [hx']; exact hs) hlo hhi h1.1 h1.2 h2
          · rename_i km m hmx
            obtain ⟨ym, rfl, hym⟩ : ∃ ym, max = some ym ∧ av n0 top bot ym = .int km m := by
              cases max <;> simp [avO] at hmx; exact ⟨_, rfl, hmx⟩
            split at h
            · rename_i kh hh hhx
              obtain ⟨yh, rfl, hyh⟩ : ∃ yh, high = some yh ∧ av n0 top bot yh = .int kh hh := by
                cases high <;> simp [avO] at hhx; exact ⟨_, rfl, hhx⟩
              obtain ⟨lo, hlo, h⟩ := bd_of h hl
              obtain ⟨hi, rfl, h⟩ := res_nat h hl
              obtain ⟨⟨rfl, h1, h1'⟩, h3⟩ := res_side h hl
              obtain ⟨l', h2, h4⟩ := res_sub h3 hl
              have := res_reg h4; subst this
              exact fun hp => st_sliceX hT ho ht hk he (by rw [hx']; exact hs) hlo rfl (av_ev hyh (by simp)) (av_ev hym (by simp)) h1 h1' h2
            · exact (res_fail h hl).elim
          · exact (res_fail h hl).elim
        · exact (res_fail h hl).elim
      · exact (res_fail h hl).elim
    · rename_i hk
      split at h
      · rename_i s
        have hx' := av_ev hx (by simp)
        split at h
        · rename_i hmx
          have : max = none := by cases max <;> simp [avO] at hmx; rfl
          subst this
          obtain ⟨lo, hlo, h⟩ := bd_of h hl
          obtain ⟨hi, hhi, h⟩ := bd_of h hl
          obtain ⟨h1, h⟩ := res_side h hl
          have := res_reg h; subst this
          exact fun hp => st_sliceStr hT ho ht hk hx' hlo hhi h1.1 h1.2
        · exact (res_fail h hl).elim
      · exact (res_fail h hl).elim
    · exact (res_fail h hl).elim
  · exact (res_fail h hl).elim

theorem leaf_indexV [Glob] (hT : TOk P T) {t : TypeId} {x y : Operand} (ho : o.op = .index t x y) (h : Res n0 base (indexV T t (av n0 top bot x) (av n0 top bot y)) r) (hl : leaf r = true) : LeafOk P N n0 base k loc (trE n0 (top ++ bot)) o r := by
  unfold indexV at h
  split at h
  · rename_i ti ht
    split at h
    · rename_i hk
      split at h
      · rename_i s hx
        split at h
        · rename_i kk i hy
          obtain ⟨h1, h⟩ := res_side h hl
          obtain ⟨b, h2, h⟩ := res_byte h hl
          have := res_reg h; subst this
          exact fun hp => st_indexStr hT ho ht hk (av_ev hx (by simp)) (av_ev hy (by simp)) h1 h2
        · exact (res_fail h hl).elim
      · exact (res_fail h hl).elim
    · exact (res_fail h hl).elim
  · exact (res_fail h hl).elim

theorem leaf_make [Glob] (hT : TOk P T) (hn : base.length = n0) {t : TypeId} {x y : Operand} (ho : o.op = .makeSlice t x y) (h : Res n0 base (makeS n0 T t (av n0 top bot x) (av n0 top bot y)) r) (hl : leaf r = true) : LeafOk P N n0 base k loc (trE n0 (top ++ bot)) o r := by
  unfold makeS at h
  split at h
  · rename_i ti ht
    split at h
    · rename_i e hk
      split at h
      · rename_i ei he
        split at h
        · rename_i z hz
          split at h
          · rename_i hzl
            have hzl := Nat.eq_of_beq_eq_true hzl
            split at h
            · rename_i kx i hx
              split at h
              · rename_i ky c hy
                obtain ⟨n, rfl, h⟩ := res_nat h hl
                obtain ⟨⟨rfl, h1, h2⟩, h3⟩ := res_side h hl
                have hx' := av_ev hx (by simp)
                have hy' := av_ev hy (by simp)
                rcases res_or h3 hl with h | h
                · have := res_mem h; subst this
                  exact fun X => st_makeX hT ho ht hk he hz hzl hx' hy' h1 h2
                · have : r = .blk (.box e (repC n z)) fun k => .v (.ms (n0 + k) 0 n) := by cases h; rfl
                  subst this
                  rw [← hn] at hx' hy' ⊢
                  exact st_makeB hT ho ht hk he hz hzl hx' hy' h1 h2
              · exact (res_fail h hl).elim
            · exact (res_fail h hl).elim
          · exact (res_fail h hl).elim
        · exact (res_fail h hl).elim
      · exact (res_fail h hl).elim
    · exact (res_fail h hl).elim
  · exact (res_fail h hl).elim

theorem leaf_append [Glob] (hT : TOk P T) (hn : base.length = n0) {t : TypeId} {x y : Operand} (ho : o.op = .call { callee := .builtin .append, args := #[x, y], argTypes := #[t, t] }) (h : Res n0 base (appendS n0 T t loc (av n0 top bot x) (av n0 top bot y)) r) (hl : leaf r = true) : LeafOk P N n0 base k loc (trE n0 (top ++ bot)) o r := by
  unfold appendS at h
  split at h
  case h_2 => exact (res_fail h hl).elim
  rename_i m l2 hs
  have hy : slOf (ev (trE n0 (top ++ bot)) y) = some (m, l2) := by rw [av_ev rfl (by intro e; rw [e] at hs; cases hs)]; exact hs
  split at h
  case h_2 => exact (res_fail h hl).elim
  rename_i ti ht
  split at h
  case h_2 => exact (res_fail h hl).elim
  rename_i e hk
  split at h
  case h_2 => exact (res_fail h hl).elim
  rename_i ei he
  split at h
  case h_2 => exact (res_fail h hl).elim
  rename_i z hz
  split at h
  case h_2 => exact (res_fail h hl).elim
  rename_i hzl
  have hzl := Nat.eq_of_beq_eq_true hzl
  split at h
  · exact (res_fail h hl).elim
  rename_i sz hsz
  split at h
  · rename_i tk n l hx
    have hx' := av_ev hx (by simp)
    rcases res_ptr h hl with ⟨j, rfl, h⟩ | ⟨B, hb, h⟩
    · split at h
      · rename_i e' sz' L hg
        split at h
        · rename_i he'
          have he' := Nat.eq_of_beq_eq_true he'
          subst he'
          split at h
          · rename_i hsz'
            have hsz' := Nat.eq_of_beq_eq_true hsz'
            subst hsz'
            obtain ⟨hA, h⟩ := res_side h hl
            have : r = .upd j (.tok e' (sz + 1) (l ++ l2).length) (some (.v (.sl (some (n0 + j)) (n + m) (l ++ l2)))) := by cases h; rfl
            subst this
            intro loc' hl'
            rw [List.length_append] at hl'
            refine st_append_t hT ho ht hk he hz hsz hzl hx' hy ?_ hA.L hA.one hA.l2 hA.bytes hA.max ?_
            · rw [← hn]; exact at_loc hg
            · rw [← hn]; exact put_loc hl'
          · exact (res_fail h hl).elim
        · exact (res_fail h hl).elim
      · exact (res_fail h hl).elim
    · split at h
      · rename_i e' sz' L
        split at h
        · rename_i he'
          have he' := Nat.eq_of_beq_eq_true he'
          subst he'
          split at h
          · rename_i hsz'
            have hsz' := Nat.eq_of_beq_eq_true hsz'
            subst hsz'
            obtain ⟨hA, h⟩ := res_side h hl
            have : r = .updB tk (.tok e' (sz + 1) (l ++ l2).length) (some (.v (.sl (some tk) (n + m) (l ++ l2)))) := by cases h; rfl
            subst this
            simp only [LeafOk, List.length_append]
            exact st_append_t hT ho ht hk he hz hsz hzl hx' hy (at_base hb) hA.L hA.one hA.l2 hA.bytes hA.max (put_base hb)
          · exact (res_fail h hl).elim
        · exact (res_fail h hl).elim
      · exact (res_fail h hl).elim
  · rename_i n l hx
    have hx' := av_ev hx (by simp)
    rcases res_or h hl with h | h
    · obtain ⟨hA, h⟩ := res_side h hl
      have : r = .blk (.tok e (sz + 1) (l ++ l2).length) fun k => .v (.sl (some (n0 + k)) (n + m) (l ++ l2)) := by cases h; rfl
      subst this
      rw [← hn] at hx' hy ⊢
      simp only [LeafOk, List.length_append]
      exact st_append_x hT ho ht hk he hz hsz hzl (.inl hx') hy hA.l hA.l2 hA.m0 hA.bytes hA.max
    · obtain ⟨rfl, h3⟩ := res_side h hl
      have := res_reg h3; subst this
      exact fun hp => st_append_0 hT ho ht hk he hx' rfl hy
  · rename_i hx
    have hx' := av_ev hx (by simp)
    rcases res_or h hl with h | h
    · obtain ⟨hA, h⟩ := res_side h hl
      have : r = .blk (.tok e (sz + 1) (([] : List AV) ++ l2).length) fun k => .v (.sl (some (n0 + k)) (0 + m) ([] ++ l2)) := by cases h; rfl
      subst this
      rw [← hn] at hx' hy ⊢
      simp only [LeafOk, List.length_append]
      exact st_append_x hT ho ht hk he hz hsz hzl (.inr ⟨hx', rfl, rfl⟩) hy hA.l hA.l2 hA.m0 hA.bytes hA.max
    · rcases res_or h hl with h | h
      · obtain ⟨rfl, h3⟩ := res_side h hl
        have := res_reg h3; subst this
        exact fun hp => st_append_0 hT ho ht hk he hx' rfl hy
      · obtain ⟨hA, h⟩ := res_side h hl
        have : r = .blkU (fun B => ∃ s, B = .box e (l2 ++ List.replicate s .junk)) fun k => .v (.ms (n0 + k) 0 (0 + m)) := by cases h; rfl
        subst this
        rw [← hn] at hx' hy ⊢
        simp only [LeafOk]
        intro g w a hH hE
        obtain ⟨s, c, g', w', q1, q2, q3, q4⟩ := st_append_c hT ho ht hk he hz hsz hzl (.inr ⟨hx', rfl, rfl⟩) hy hA.l hA.l2 hA.m0 hA.bytes hA.max g w a hH hE
        exact ⟨_, c, g', w', ⟨s, rfl⟩, q1, q2, q3, q4⟩
  · rename_i n l hx
    obtain ⟨rfl, h3⟩ := res_side h hl
    have := res_reg h3; subst this
    exact fun hp => st_append_0 hT ho ht hk he (av_ev hx (by simp [tr])) rfl hy
  · exact (res_fail h hl).elim
end
end Go.Vsi
/-! text R3 -/
namespace Go.Vsi

section
variable {P : Program} {N : FN} {n0 : Nat} {base : Heap} {k : Nat} {loc : Heap} {top bot : RE} {o : Oper} {T : TypeId → Option TI} {kn : TypeId → Nat} {r : SR}

structure Env0 (P : Program) (T : TypeId → Option TI) (kn : TypeId → Nat) : Prop where
  zr : ∀ t ti, T t = some ti → zeroShape P t = true
  T : TOk P T
  fk : ∀ t n, kn t = n + 1 → fieldsKnown P t = true
  eq : ∀ t n, kn t = n + 2 → P.stoodInHeld t = false ∧ P.eqGuardType P.depth t = false

theorem step_leaf [Glob] (he : Env0 P T kn) (hn : base.length = n0) {op : Op} (ho : o.op = op) (h : Res n0 base (stepS kn T n0 top bot loc op) r) (hl : leaf r = true) : LeafOk P N n0 base k loc (trE n0 (top ++ bot)) o r := by
  unfold stepS at h
  split at h
  · exact leaf_move (.inl ho) h hl
  · exact leaf_move (.inr ho) h hl
  · exact leaf_bin he.T he.eq ho h hl
  · exact leaf_not ho h hl
  · exact leaf_neg ho h hl
  · exact leaf_com ho h hl
  · rename_i s t x
    refine ofI_step h hl fun v hv hp => ?_
    generalize hx : av n0 top bot x = vx at hv
    refine stepV_sound he.T ho ?_
    simp only [stepV]
    rw [av_ev hx (by rintro rfl; cases hv)]
    exact hv
  · exact leaf_extract ho h hl
  · exact leaf_field he.T ho h hl
  · exact leaf_fieldPart he.T ho h hl
  · exact leaf_nil ho h hl
  · exact leaf_load he.T hn ho h hl
  · exact leaf_store he.T hn ho h hl
  · exact leaf_alloc he.T ho h hl
  · obtain ⟨a, ha, h⟩ := res_withV h hl
    rw [← avF_av ha] at h
    exact leaf_box ho h hl
  · obtain ⟨a, ha, h⟩ := res_withL h hl
    rw [← avPF_eq ha] at h
    exact leaf_build he.T he.fk ho h hl
  · obtain ⟨a, ha, h⟩ := res_withL h hl
    rw [← avPF_eq ha] at h
    exact leaf_buildSlice he.T ho h hl
  · exact leaf_index he.T ho h hl
  · obtain ⟨a, ha, h⟩ := res_withL h hl
    obtain ⟨b, hb, h⟩ := res_withL h hl
    rw [← avLF_eq ha, ← avLF_eq hb] at h
    exact leaf_func ho h
  · exact leaf_slice he.T ho h hl
  · exact leaf_indexV he.T ho h hl
  · exact leaf_make he.T hn ho h hl
  · exact leaf_makeMap hn ho h
  · obtain ⟨a, ha, h⟩ := res_withV h hl
    exact leaf_look he.T he.eq he.zr hn ho (avF_ev ha) h hl
  · obtain ⟨a, ha, h⟩ := res_withV h hl
    obtain ⟨b, hb, h⟩ := res_withV h hl
    exact leaf_put he.T he.eq hn (.inl ho) (avF_ev ha) (avF_ev hb) h hl
  · obtain ⟨a, ha, h⟩ := res_withV h hl
    obtain ⟨b, hb, h⟩ := res_withV h hl
    exact leaf_put he.T he.eq hn (.inr ho) (avF_ev ha) (avF_ev hb) h hl
  · exact leaf_range he.T hn ho h hl
  · split at h
    · exact leaf_next hn ho h hl
    · exact (res_fail h hl).elim
  · exact leaf_entry hn ho h hl
  · exact leaf_len he.T ho h hl
  · split at h
    · rename_i hb
      have hb := Nat.eq_of_beq_eq_true hb
      subst hb
      exact leaf_append he.T hn ho h hl
    · exact (res_fail h hl).elim
  · rename_i x y ts
    refine ofV_step h hl fun v hv hp => ?_
    generalize hx : av n0 top bot x = vx at hv
    generalize hy : av n0 top bot y = vy at hv
    refine stepV_sound he.T ho ?_
    simp only [stepV]
    rw [av_ev hx (by rintro rfl; cases hv), av_ev hy (by rintro rfl; cases vx <;> cases hv)]
    exact hv
  · rename_i x y ts
    refine ofV_step h hl fun v hv hp => ?_
    generalize hx : av n0 top bot x = vx at hv
    generalize hy : av n0 top bot y = vy at hv
    refine stepV_sound he.T ho ?_
    simp only [stepV]
    rw [av_ev hx (by rintro rfl; cases hv), av_ev hy (by rintro rfl; cases vx <;> cases hv)]
    exact hv
  · rename_i f xs ts
    obtain ⟨a, ha, h⟩ := res_withL h hl
    rw [← avLF_eq ha] at h
    obtain ⟨F, as, rfl, fs, cs, h1, h2⟩ := leaf_call h hl
    exact ⟨f, xs, ts, fs, cs, _, ho, h1, h2, fun g w a hE => avL_rel hE xs⟩
  · exact (res_fail h hl).elim

/-! ### the nodes of a walk -/
structure IfN (b : Bool) (A B : Prop) : Prop where
  t : b = true → A
  f : b = false → B
theorem IfN.tt {b : Bool} {A B : Prop} (h : b = true) (a : A) : IfN b A B := ⟨fun _ => a, fun e => by rw [h] at e; cases e⟩
theorem IfN.ff {b : Bool} {A B : Prop} (h : b = false) (a : B) : IfN b A B := ⟨(fun e => by rw [h] at e; cases e), fun _ => a⟩
structure SideN (p A : Prop) : Prop where
  side : p
  rest : A
inductive PtrN (n0 : Nat) (base : Heap) (i : Nat) (kl : Nat → Prop) (kb : Blk → Prop) : Prop where
  | loc (j : Nat) (h : i = n0 + j) (a : kl j)
  | base (B : Blk) (h : base[i]? = some B) (a : kb B)
inductive SegN (l : List AV) (o : Nat) (k : List AV → Prop) : Prop where
  | mk (l' : List AV) (h : Seg l o l') (a : k l')
inductive SubN (l : List AV) (o n : Nat) (k : List AV → Prop) : Prop where
  | mk (l' : List AV) (h : SubL l o n l') (a : k l')
inductive NatN (i : Int) (k : Nat → Prop) : Prop where
  | mk (m : Nat) (h : i = (m : Int)) (a : k m)
inductive ByteN (s : ByteArray) (i : Int) (k : UInt8 → Prop) : Prop where
  | mk (b : UInt8) (h : s[i.toNat]? = some b) (a : k b)
inductive OrN (A B : Prop) : Prop where
  | l (a : A)
  | r (b : B)
inductive OfsN (i : Int) (n : Nat) (k : Nat → Prop) : Prop where
  | mk (m : Nat) (h : i = (m : Int)) (hm : m < n) (a : k m)
inductive EqN (x : Int) (k : Int → Prop) : Prop where
  | mk (y : Int) (h : x = y) (a : k y)
theorem IfN.not {b : Bool} {A B : Prop} (h : IfN b B A) : IfN (!b) A B := ⟨(fun e => h.f (by simpa using e)), fun e => h.t (by simpa using e)⟩
theorem IfN.dec {p : Prop} [Decidable p] {A B : Prop} (h1 : p → A) (h2 : ¬p → B) : IfN (decide p) A B := ⟨(fun e => h1 (by simpa using e)), fun e => h2 (by simpa using e)⟩
theorem IfN.dT {p : Prop} [Decidable p] {A B : Prop} (h : p) (a : A) : IfN (decide p) A B := .tt (by simpa using h) a
theorem IfN.dF {p : Prop} [Decidable p] {A B : Prop} (h : ¬p) (a : B) : IfN (decide p) A B := .ff (by simpa using h) a
theorem IfN.eq {a b : Int} {A B : Prop} (h1 : a = b → A) (h2 : a ≠ b → B) : IfN (a == b) A B := ⟨(fun e => h1 (by simpa using e)), fun e => h2 (by simpa using e)⟩
theorem IfN.eqT {a b : Int} {A B : Prop} (h : a = b) (k : A) : IfN (a == b) A B := .tt (by simpa using h) k
theorem IfN.eqF {a b : Int} {A B : Prop} (h : a ≠ b) (k : B) : IfN (a == b) A B := .ff (by simpa using h) k
theorem IfN.ne {a b : Int} {A B : Prop} (h1 : a ≠ b → A) (h2 : a = b → B) : IfN (a != b) A B := ⟨(fun e => h1 (by simpa using e)), fun e => h2 (by simpa using e)⟩
theorem IfN.neT {a b : Int} {A B : Prop} (h : a ≠ b) (k : A) : IfN (a != b) A B := .tt (by simpa using h) k
theorem IfN.neF {a b : Int} {A B : Prop} (h : a = b) (k : B) : IfN (a != b) A B := .ff (by simpa using h) k
inductive SetN (base : Heap) (i : Nat) (B : Blk) (k : Heap → Prop) : Prop where
  | mk (base' : Heap) (h : base.set i B = base') (a : k base')
inductive RelN (S : List AV → List AV → Prop) (k : List AV → List AV → Prop) : Prop where
  | mk (a b : List AV) (h : S a b) (c : k a b)
inductive CallN [Glob] (P : Program) (F : Fn) (as : List AV) (n0 : Nat) (base : Heap) (k : Nat) (loc : Heap) (K : AV → Heap → Nat → Heap → Prop) : Prop where
  | detF (v : AV) (h : VFn P F as (base ++ loc) fun r H' => H' = base ++ loc ∧ r = v) (a : K v base k loc)
  | genF (R : AV → Heap → Prop) (h : VFn P F as (base ++ loc) R)
      (a : ∀ r H', R r H' → ∃ base' k' loc', base' ++ loc' = H' ∧ loc'.length = k' ∧ base'.length = n0 ∧ K r base' k' loc')
theorem CallN.det [Glob] {F : FuncId} {as : List AV} {K : AV → Heap → Nat → Heap → Prop} (v : AV) (h : VDet P F as (base ++ loc) v) (a : K v base k loc) : CallN P (.func F) as n0 base k loc K := .detF v h a
theorem CallN.gen [Glob] {F : FuncId} {as : List AV} {K : AV → Heap → Nat → Heap → Prop} (R : AV → Heap → Prop) (h : VCall P F as (base ++ loc) R)
    (a : ∀ r H', R r H' → ∃ base' k' loc', base' ++ loc' = H' ∧ loc'.length = k' ∧ base'.length = n0 ∧ K r base' k' loc') : CallN P (.func F) as n0 base k loc K := .genF R h a
theorem CallN.pure [Glob] {F : FuncId} {as : List AV} {K : AV → Heap → Nat → Heap → Prop} (R : AV → Prop) (hn : base.length = n0) (hk : loc.length = k) (h : VPure P F as (base ++ loc) R) (a : ∀ r, R r → K r base k loc) : CallN P (.func F) as n0 base k loc K :=
  .genF _ h fun r _ hr => ⟨base, k, loc, hr.1.symm, hk, hn, a r hr.2⟩

/-- a new block, of which it is known what it holds -/
structure BlkUN (S : Blk → Prop) (k : Blk → Prop) : Prop where
  h : ∀ B, S B → k B
theorem BlkUN.box {e : TypeId} {l : List AV} {k : Blk → Prop} (h : ∀ s, k (.box e (l ++ List.replicate s .junk))) : BlkUN (fun B => ∃ s, B = .box e (l ++ List.replicate s .junk)) k :=
  ⟨fun _ ⟨s, hs⟩ => hs ▸ h s⟩

def wpS [Glob] (P : Program) (n0 : Nat) (base : Heap) (k : Nat) (loc : Heap) (K : Option RG → Heap → Nat → Heap → Prop) (s : SR) : Prop :=
  @SR.rec (fun _ => Prop) False
    (fun v => K (some v) base k loc)
    (fun v => K (some v) base k loc)
    (fun t l => match snocC loc (.box t l) with
      | some loc' => K (some (.lp k 0)) base (k + 1) loc'
      | none => False)
    (fun j B v => match lset loc j B with
      | some loc' => K v base k loc'
      | none => False)
    (fun i B v => SetN base i B fun base' => K v base' k loc)
    (fun B v => match snocC loc B with
      | some loc' => K (some (v k)) base (k + 1) loc'
      | none => False)
    (fun p _ ih => SideN p ih)
    (fun i _ _ ihl ihb => PtrN n0 base i ihl ihb)
    (fun l o _ ih => SegN l o ih)
    (fun i n _ ih => OfsN i n ih)
    (fun x _ ih => EqN x ih)
    (fun l o n _ ih => SubN l o n ih)
    (fun i _ ih => NatN i ih)
    (fun s i _ ih => ByteN s i ih)
    (fun _ _ iha ihb => OrN iha ihb)
    (fun f as => CallN P f as n0 base k loc (fun r => K (some (.v r))))
    (fun S _ ih => RelN S ih)
    (fun j S => ∀ B v, S B v → match lset loc j B with
      | some loc' => K (some (.v v)) base k loc'
      | none => False)
    (fun S v => BlkUN S fun B => match snocC loc B with
      | some loc' => K (some (v k)) base (k + 1) loc'
      | none => False) s

theorem wpS_leaf [Glob] {K : Option RG → Heap → Nat → Heap → Prop} : ∀ (s : SR), wpS P n0 base k loc K s → ∃ r, Res n0 base s r ∧ leaf r = true ∧ wpS P n0 base k loc K r
  | .fail, h => h.elim
  | .reg v, h => ⟨_, .refl _, rfl, h⟩
  | .mem v, h => ⟨_, .refl _, rfl, h⟩
  | .box t l, h => ⟨_, .refl _, rfl, h⟩
  | .upd j B v, h => ⟨_, .refl _, rfl, h⟩
  | .updB i B v, h => ⟨_, .refl _, rfl, h⟩
  | .blk B v, h => ⟨_, .refl _, rfl, h⟩
  | .call f as, h => ⟨_, .refl _, rfl, h⟩
  | .anyU j S, h => ⟨_, .refl _, rfl, h⟩
  | .blkU S v, h => ⟨_, .refl _, rfl, h⟩
  | .rel S kk, h => by
    obtain ⟨y, z, h1, h2⟩ := h
    obtain ⟨r, h3, h4⟩ := wpS_leaf (kk y z) h2
    exact ⟨r, .rel h1 h3, h4⟩
  | .side p s, h => by
    obtain ⟨r, h1, h2⟩ := wpS_leaf s h.rest
    exact ⟨r, .side h.side h1, h2⟩
  | .ptr i kl kb, h => by
    cases h with
    | loc j h1 h2 =>
      obtain ⟨r, h3, h4⟩ := wpS_leaf (kl j) h2
      exact ⟨r, .ptrL h1 h3, h4⟩
    | base B h1 h2 =>
      obtain ⟨r, h3, h4⟩ := wpS_leaf (kb B) h2
      exact ⟨r, .ptrB h1 h3, h4⟩
  | .seg l o kk, h => by
    obtain ⟨l', h1, h2⟩ := h
    obtain ⟨r, h3, h4⟩ := wpS_leaf (kk l') h2
    exact ⟨r, .seg h1 h3, h4⟩
  | .ofs i n kk, h => by
    obtain ⟨m, h1, h2, h3⟩ := h
    obtain ⟨r, h4, h5⟩ := wpS_leaf (kk m) h3
    exact ⟨r, .ofs h1 h2 h4, h5⟩
  | .eqv x kk, h => by
    obtain ⟨y, h1, h2⟩ := h
    obtain ⟨r, h3, h4⟩ := wpS_leaf (kk y) h2
    exact ⟨r, .eqv h1 h3, h4⟩
  | .sub l o n kk, h => by
    obtain ⟨y, h1, h2⟩ := h
    obtain ⟨r, h3, h4⟩ := wpS_leaf (kk y) h2
    exact ⟨r, .sub h1 h3, h4⟩
  | .nat i kk, h => by
    obtain ⟨y, h1, h2⟩ := h
    obtain ⟨r, h3, h4⟩ := wpS_leaf (kk y) h2
    exact ⟨r, .nat h1 h3, h4⟩
  | .byte s i kk, h => by
    obtain ⟨y, h1, h2⟩ := h
    obtain ⟨r, h3, h4⟩ := wpS_leaf (kk y) h2
    exact ⟨r, .byte h1 h3, h4⟩
  | .or a b, h => by
    rcases h with h | h
    · obtain ⟨r, h3, h4⟩ := wpS_leaf a h
      exact ⟨r, .orl h3, h4⟩
    · obtain ⟨r, h3, h4⟩ := wpS_leaf b h
      exact ⟨r, .orr h3, h4⟩

def putN (N : Nat) (d : Option Nat) (v : Option RG) (top : RE) (K : RE → Prop) : Prop := match d with
  | some d => match v with
    | some v => match Nat.blt d N with
      | true => K ((d, v) :: top)
      | false => False
    | none => False
  | none => match v with
    | none => K top
    | some _ => False

theorem call_wp [Glob] {f : Operand} {fn : Fn} {xs : List Operand} {ts : Array TypeId} {fs cs ws as : List AV} {env : Env} {H : Heap} {R : AV → Heap → Prop} {g : G} {w : World} {a : Act} {K : Act → World → Prop} {Qc : Exit → Act → World → Prop} (ho : o.op = .call { callee := .value f, args := xs.toArray, argTypes := ts })
    (hf : ev env f = .clo fn fs cs) (hw : LRel g w ws (xs.map a.eval)) (has : (fs ++ ws) ++ cs = as) (hc : VFn P fn as H R) (hH : HRel g w (Hp.of H)) (hE : ERel N g w env a)
    (fin : ∀ r H' g' w' c, R r H' → HRel g' w' (Hp.of H') → VRel g' w' r c → Ext g w g' w' → K (a.put o.dst c) w') : o.wpIn (FR (N.fo g)) 0 P a w K Qc := by
  have hr := ev_rel hE f
  rw [hf] at hr
  simp only [VRel] at hr
  obtain ⟨hok, f', c', hfv, hfs, hcs⟩ := hr
  have hargs := ((hfs.append hw).append hcs)
  rw [has] at hargs
  cases fn with
  | func F =>
    obtain ⟨⟨fn, h1, h2, h3⟩, hcall⟩ := hc
    have hrun : (execOp a.eval o).run P w = .ok (.enter F ((f' ++ (xs.map a.eval).toArray) ++ c')) w := by
      have h2' : fn.name ≠ "runtime.NumGoroutine" := by simpa using h2
      have h3' : fn.body ≠ none := by intro h0; simp [h0] at h3
      simp [execOp, ho, resolve, hfv, fnG, Deferred.ofValue, invoke, callFunc, h1, h2', h3']
    refine opIn_enter hrun ((hcall g w _ hH (by simpa using hargs)).mono ?_)
    rintro e w' ⟨r, H', g', c, rfl, hR, hH', hv, hx'⟩
    exact fin r H' g' w' c hR hH' hv hx'
  | yield i =>
    have hcs0 : cs = [] := hok.2
    subst hcs0
    have hc0 : c'.toList = [] := by simpa [LRel] using hcs
    have hargs' : LRel g w as (f' ++ (xs.map a.eval).toArray).toList := by rw [hc0] at hargs; simpa using hargs
    obtain ⟨f0, tmps, assign, body, hy, hround⟩ := hc g w _ hH hargs' hok.1
    have hrun : (execOp a.eval o).run P w = .ok (.round (g.blk i) f0 tmps assign body) w := by
      simp only [execOp, ho, resolve]
      rw [hfv]
      simpa [Deferred.ofValue, invoke, fnG] using hy
    refine opIn_round hrun (hround.mono ?_)
    rintro e w' ⟨r, H', g', c, rfl, hR, hH', hv, hx'⟩
    exact fin r H' g' w' c hR hH' hv hx'
  | _ => exact hc.elim

theorem vcall_conv [Glob] {f : Operand} {fn : Fn} {xs : List Operand} {ts : Array TypeId} {fs cs ws as : List AV} {d : Nat} {env : Env} {hp : Hp} {all rest : List Oper} {Q : Env → Hp → Prop} {R : AV → Heap → Prop} (ho : o.op = .call { callee := .value f, args := xs.toArray, argTypes := ts }) (hg : gd all env o = some true) (hd : o.dst = some d) (hN : Nat.blt d N.n = true)
    (hf : ev env f = .clo fn fs cs) (hw : ∀ g w a, ERel N g w env a → LRel g w ws (xs.map a.eval)) (has : (fs ++ ws) ++ cs = as)
    (hc : VFn P fn as hp.all R) (h : ∀ r H', R r H' → ∃ hp', (∀ g w, HRel g w hp → Sees hp H' hp') ∧ VO P N all rest Q ((d, r) :: env) hp') : VO P N all (o :: rest) Q env hp := by
  intro g0 w0 g w a Qc hH hE hx k
  unfold wpListIn
  rw [if_pos (gd_wanted hE hg)]
  refine call_wp ho hf (hw g w a hE) has hc hH.of hE fun r H' g' w' c hR hH' hv hx' => ?_
  obtain ⟨hp', hs, hvo⟩ := h r H' hR
  rw [hd]
  have := hvo g0 w0 g' w' _ Qc (hH'.see (hs g w hH)) ((hE.ext hx').put hN hv) (hx.trans hx') (fun e1 h1 g1 a1 w1 q1 q2 q3 q4 q5 => k e1 h1 g1 a1 w1 q1 q2 q3 q4 (by rw [q5]; rfl))
  rw [hE.fo hx'] at this
  exact this

theorem step_of_aok [Glob] {t : TypeId} {l : List AV} {env : Env} (h : AOk P N (.box t l) env o) : Step P N ⟨base, k, loc⟩ env o (.ptr (base.length + k) 0) ⟨base, k + 1, loc ++ [.box t l]⟩ := by
  intro g w a hH hE
  obtain ⟨t', l', cs, h1, h2, h3⟩ := h g w a hE
  cases h1
  obtain ⟨g', e1, e2, e3, e4⟩ := hH.newBox (t := t) (l := l) (cs := cs) h2
  refine ⟨_, g', _, h3, e3, ?_, e4⟩
  simp only [VRel]
  have hn := hH.n
  simp only at hn
  exact ⟨by rw [← hn]; exact e1, by rw [← hn, e2]⟩

/-- one operation of a plain region -/
theorem vo_R [Glob] (he : Env0 P T kn) (hn : base.length = n0) {all rest : List Oper} {Q : Env → Hp → Prop} {K : RE → Heap → Nat → Heap → Prop}
    (hg : gd all (trE n0 (top ++ bot)) o = some true)
    (h : wpS P n0 base k loc (fun v base k loc => putN N.n o.dst v top fun top => K top base k loc) (stepS kn T n0 top bot loc o.op))
    (hK : ∀ top base k loc, base.length = n0 → K top base k loc → VO P N all rest Q (trE n0 (top ++ bot)) ⟨base, k, loc⟩) :
    VO P N all (o :: rest) Q (trE n0 (top ++ bot)) ⟨base, k, loc⟩ := by
  obtain ⟨r, h1, h2, h3⟩ := wpS_leaf _ h
  have hlf := step_leaf (N := N) (k := k) (loc := loc) he hn rfl h1 h2
  have puts : ∀ {v : RG} {base' k' loc'}, putN N.n o.dst (some v) top (fun top => K top base' k' loc') → ∃ d, o.dst = some d ∧ Nat.blt d N.n = true ∧ K ((d, v) :: top) base' k' loc' := by
    intro v base' k' loc' hp
    unfold putN at hp
    split at hp
    · rename_i d hd
      simp only at hp
      split at hp
      · rename_i hb; exact ⟨d, hd, hb, hp⟩
      · exact hp.elim
    · exact hp.elim
  have putU : ∀ {base' k' loc'}, putN N.n o.dst none top (fun top => K top base' k' loc') → o.dst = none ∧ K top base' k' loc' := by
    intro base' k' loc' hp
    unfold putN at hp
    split at hp
    · exact hp.elim
    · rename_i hd; exact ⟨hd, hp⟩
  cases r with
  | reg v =>
    obtain ⟨d, hd, hb, hk⟩ := puts h3
    exact vo_step (hlf ⟨base, k, loc⟩) hg hd hb (hK ((d, v) :: top) _ _ _ hn hk)
  | mem v =>
    obtain ⟨d, hd, hb, hk⟩ := puts h3
    have hs := hlf []
    simp only [List.length_nil, Nat.add_zero, List.append_nil] at hs
    exact vo_step hs hg hd hb (hK ((d, v) :: top) _ _ _ hn hk)
  | box t l =>
    simp only [wpS] at h3
    split at h3
    · rename_i loc' hl
      obtain ⟨d, hd, hb, hk⟩ := puts h3
      have hs := step_of_aok (base := base) (k := k) (loc := loc) hlf
      rw [← snocC_eq _ _ _ hl, hn] at hs
      exact vo_step hs hg hd hb (hK ((d, _) :: top) _ _ _ hn hk)
    · exact h3.elim
  | upd j B v =>
    simp only [wpS] at h3
    split at h3
    · rename_i loc' hl
      cases v with
      | none =>
        obtain ⟨hd, hk⟩ := putU h3
        exact vo_stepU (hlf loc' hl) hg hd (hK _ _ _ _ hn hk)
      | some v =>
        obtain ⟨d, hd, hb, hk⟩ := puts h3
        exact vo_step (hlf loc' hl) hg hd hb (hK ((d, v) :: top) _ _ _ hn hk)
    · exact h3.elim
  | updB i B v =>
    simp only [wpS] at h3
    obtain ⟨base', hset, h3⟩ := h3
    subst hset
    cases v with
    | none =>
      obtain ⟨hd, hk⟩ := putU h3
      exact vo_stepU hlf hg hd (hK _ _ _ _ (by simpa using hn) hk)
    | some v =>
      obtain ⟨d, hd, hb, hk⟩ := puts h3
      exact vo_step hlf hg hd hb (hK ((d, v) :: top) _ _ _ (by simpa using hn) hk)
  | anyU j S =>
    simp only [wpS] at h3
    intro g0 w0 g w a Qc hH hE hx kk
    unfold wpListIn
    rw [if_pos (gd_wanted hE hg)]
    obtain ⟨B, v, c, g', w', hS, hrun, hH', hv, hx'⟩ := hlf g w a hH hE
    have h4 := h3 B v hS
    split at h4
    · rename_i loc' hl
      obtain ⟨d, hd, hb, hk⟩ := puts h4
      refine opIn_value hrun ?_
      rw [hd]
      have := hK ((d, .v v) :: top) _ _ _ hn hk g0 w0 g' w' _ Qc (hH' loc' hl) ((hE.ext hx').put hb hv) (hx.trans hx') (fun e1 h1 g1 a1 w1 q1 q2 q3 q4 q5 => kk e1 h1 g1 a1 w1 q1 q2 q3 q4 (by rw [q5]; rfl))
      rw [hE.fo hx'] at this
      exact this
    · exact h4.elim
  | blkU S v =>
    simp only [wpS] at h3
    intro g0 w0 g w a Qc hH hE hx kk
    unfold wpListIn
    rw [if_pos (gd_wanted hE hg)]
    obtain ⟨B, c, g', w', hS, hrun, hH', hv, hx'⟩ := hlf g w a hH hE
    have h4 := h3.h B hS
    split at h4
    · rename_i loc' hl
      obtain ⟨d, hd, hb, hk⟩ := puts h4
      refine opIn_value hrun ?_
      rw [hd]
      rw [← snocC_eq _ _ _ hl] at hH'
      have := hK ((d, v k) :: top) _ _ _ hn hk g0 w0 g' w' _ Qc hH' ((hE.ext hx').put hb hv) (hx.trans hx') (fun e1 h1 g1 a1 w1 q1 q2 q3 q4 q5 => kk e1 h1 g1 a1 w1 q1 q2 q3 q4 (by rw [q5]; rfl))
      rw [hE.fo hx'] at this
      exact this
    · exact h4.elim
  | blk B v =>
    simp only [wpS] at h3
    split at h3
    · rename_i loc' hl
      obtain ⟨d, hd, hb, hk⟩ := puts h3
      have hs := hlf
      simp only [LeafOk] at hs
      rw [← snocC_eq _ _ _ hl] at hs
      exact vo_step hs hg hd hb (hK ((d, v k) :: top) _ _ _ hn hk)
    · exact h3.elim
  | call F as =>
    obtain ⟨f, xs, ts, fs, cs, ws, ho, hf, has, hw⟩ := hlf
    have hall : (⟨base, k, loc⟩ : Hp).all = base ++ loc := rfl
    simp only [wpS] at h3
    cases h3 with
    | detF v hc hk =>
      obtain ⟨d, hd, hb, hk⟩ := puts hk
      exact vcall_conv ho hg hd hb hf hw has hc fun r H' ⟨e, hr⟩ => ⟨⟨base, k, loc⟩, fun g w hH => by subst e; exact sees_same hH, by subst hr; exact hK ((d, _) :: top) _ _ _ hn hk⟩
    | genF R hc hk =>
      by_cases hex : ∃ d, o.dst = some d ∧ Nat.blt d N.n = true
      · obtain ⟨d, hd, hb⟩ := hex
        refine vcall_conv ho hg hd hb hf hw has hc fun r H' hr => ?_
        obtain ⟨base', k', loc', e1, e2, e3, hk'⟩ := hk r H' hr
        refine ⟨⟨base', k', loc'⟩, fun g w hH => ⟨e1, e2⟩, ?_⟩
        obtain ⟨d', hd', hb', hk'⟩ := puts hk'
        rw [hd] at hd'; cases hd'
        exact hK ((d, .v r) :: top) _ _ _ e3 hk'
      · intro g0 w0 g w a Qc hH hE hx kk
        exfalso
        have hr := ev_rel hE f
        rw [hf] at hr
        simp only [VRel] at hr
        obtain ⟨hok, f', c', hfv, hfs, hcs⟩ := hr
        have hargs := ((hfs.append (hw g w a hE)).append hcs)
        rw [has] at hargs
        obtain ⟨r, H', hR⟩ := VFn.some hc (asv := (f' ++ (xs.map a.eval).toArray) ++ c') hH.of (by simpa using hargs) hok.1
        obtain ⟨base', k', loc', e1, e2, e3, hk'⟩ := hk r H' hR
        obtain ⟨d', hd', hb', -⟩ := puts hk'
        exact hex ⟨d', hd', hb'⟩
  | fail => cases h2
  | side _ _ => cases h2
  | ptr _ _ _ => cases h2
  | seg _ _ _ => cases h2
  | ofs _ _ _ => cases h2
  | eqv _ _ => cases h2
  | sub _ _ _ _ => cases h2
  | nat _ _ => cases h2
  | byte _ _ _ => cases h2
  | or _ _ => cases h2
  | rel _ _ => cases h2
end
end Go.Vsi
/-! text R4 -/
namespace Go.Vsi

/-- the state with this environment says no more than that one -/
def Apx (n0 : Nat) (env : Env) (re : RE) : Prop := ∀ s, Wk (get env s) (get (trE n0 re) s)
theorem Apx.refl (n0 : Nat) (re : RE) : Apx n0 (trE n0 re) re := fun _ => Wk.refl _

def LQ (n0 : Nat) (bot : RE) (Q : Exit → RE → Heap → Nat → Heap → Prop) : Exit → Env → Hp → Prop :=
  fun e env hp => ∃ top base k loc, Apx n0 env (top ++ bot) ∧ hp = ⟨base, k, loc⟩ ∧ base.length = n0 ∧ Q e top base k loc

section
variable {P : Program} {N : FN} {n0 : Nat} {T : TypeId → Option TI} {kn : TypeId → Nat}

theorem vo_env [Glob] {all rest : List Oper} {Q : Env → Hp → Prop} {env env' : Env} {hp : Hp} (h : VO P N all rest Q env' hp) (hw : ∀ s, Wk (get env s) (get env' s)) : VO P N all rest Q env hp :=
  fun g0 w0 g w a Qc hH hE hx k => h g0 w0 g w a Qc hH ⟨hE.1, fun s => hw s _ _ _ (hE.rel s), hE.ro, hE.glob⟩ hx k

/-- the slot that a guard looks at -/
def gslot (all : List Oper) (j : Nat) : Option Nat := match lget all j with
  | some oj => oj.dst
  | none => none

def skipN (N : Nat) (d : Option Nat) (top : RE) (K : RE → Prop) : Prop := match d with
  | some d => match Nat.blt d N with
    | true => K ((d, .v (.tup [])) :: top)
    | false => False
  | none => K top

def putS (N : Nat) (d : Option Nat) (v : Option RG) (top : RE) (K : RE → Prop) : Prop := match d with
  | some d => match v with
    | some v => match Nat.blt d N with
      | true => K ((d, v) :: top)
      | false => False
    | none => False
  | none => False

def pickN [Glob] (N : Nat) (bot : RE) (d : Option Nat) (c x y : Operand) (top : RE) (K : RE → Prop) : Prop := match evR top bot c with
  | some (.lit true) => putS N d (evR top bot x) top K
  | some (.lit false) => putS N d (evR top bot y) top K
  | some (.v (.bool b)) => IfN b (putS N d (evR top bot x) top K) (putS N d (evR top bot y) top K)
  | _ => False

def opN [Glob] (P : Program) (kn : TypeId → Nat) (T : TypeId → Option TI) (N : FN) (n0 : Nat) (bot : RE) (o : Oper) (base : Heap) (k : Nat) (loc : Heap) (K : RE → Heap → Nat → Heap → Prop) (top : RE) : Prop :=
  match o.op with
  | .pick c x y => pickN N.n bot o.dst c x y top fun top => K top base k loc
  | op => wpS P n0 base k loc (fun v base k loc => putN N.n o.dst v top fun top => K top base k loc) (stepS kn T n0 top bot loc op)

def guardN (bot : RE) (all : List Oper) (o : Oper) (top : RE) (ex sk : RE → Prop) : Prop :=
  match o.guard with
  | none => ex top
  | some (j, want) => match gslot all j with
    | some d => match rget2 top bot d with
      | some (.lit true) => (match want with
        | true => ex top
        | false => sk top)
      | some (.lit false) => (match want with
        | true => sk top
        | false => ex top)
      | some (.v (.bool b)) => (match want with
        | true => IfN b (ex ((d, .lit true) :: top)) (sk ((d, .lit false) :: top))
        | false => IfN b (sk ((d, .lit true) :: top)) (ex ((d, .lit false) :: top)))
      | some (.v (.tup [])) => sk top
      | _ => False
    | none => False

/- written by recursors: so that the kernel's own way through it and Lean's come to the same terms -/
def wpO [Glob] (P : Program) (kn : TypeId → Nat) (T : TypeId → Option TI) (N : FN) (n0 : Nat) (bot : RE) (all l : List Oper) (K : RE → Heap → Nat → Heap → Prop) : RE → Heap → Nat → Heap → Prop :=
  @List.rec Oper (fun _ => RE → Heap → Nat → Heap → Prop) K
    (fun o _ ih top base k loc => guardN bot all o top
      (opN P kn T N n0 bot o base k loc ih)
      (fun top => skipN N.n o.dst top fun top => ih top base k loc)) l

theorem lit_get {top bot : RE} {d : Nat} {b : Bool} (h : rget2 top bot d = some (.v (.bool b))) (s : Nat) : get (trE n0 (top ++ bot)) s = get (trE n0 ((d, .lit b) :: top ++ bot)) s := by
  simp only [List.cons_append, trE]
  by_cases hs : d = s
  · subst hs
    rw [get_put_same, rget2_get h]; rfl
  · rw [get_put_ne _ _ hs]

theorem gd_some {all : List Oper} {o : Oper} {j : Nat} {want : Bool} {top bot : RE} {d : Nat} {v : RG} {b : Bool} (hg : o.guard = some (j, want)) (hs : gslot all j = some d) (hv : rget2 top bot d = some v) (hb : tr n0 v = .bool b) :
    gd all (trE n0 (top ++ bot)) o = some (bb want b) := by
  unfold gd
  simp only [hg]
  unfold gslot at hs
  cases hl : lget all j with
  | none => simp [hl] at hs
  | some oj =>
    simp only [hl] at hs
    simp only [hs, rget2_get hv, hb]

/-- the guard's ways -/
theorem guard_cases {all : List Oper} {o : Oper} {top bot : RE} {ex sk : RE → Prop} (h : guardN bot all o top ex sk) :
    ∃ top', (∀ s, get (trE n0 (top ++ bot)) s = get (trE n0 (top' ++ bot)) s) ∧ ((gd all (trE n0 (top' ++ bot)) o = some true ∧ ex top') ∨ (gd all (trE n0 (top' ++ bot)) o = some false ∧ sk top')) := by
  unfold guardN at h
  split at h
  · rename_i hg
    exact ⟨top, fun _ => rfl, .inl ⟨by unfold gd; simp [hg], h⟩⟩
  · rename_i j want hg
    split at h
    · rename_i d hs
      split at h
      · rename_i hv
        have hgd := gd_some (n0 := n0) hg hs hv rfl
        cases want with
        | true => exact ⟨top, fun _ => rfl, .inl ⟨hgd, h⟩⟩
        | false => exact ⟨top, fun _ => rfl, .inr ⟨hgd, h⟩⟩
      · rename_i hv
        have hgd := gd_some (n0 := n0) hg hs hv rfl
        cases want with
        | true => exact ⟨top, fun _ => rfl, .inr ⟨hgd, h⟩⟩
        | false => exact ⟨top, fun _ => rfl, .inl ⟨hgd, h⟩⟩
      · rename_i b hv
        have hl : ∀ c, rget2 ((d, RG.lit c) :: top) bot d = some (.lit c) := fun c => by simp [rget2, rgetO]
        have hgd : ∀ c, gd all (trE n0 (((d, RG.lit c) :: top) ++ bot)) o = some (bb want c) := fun c => gd_some (n0 := n0) hg hs (hl c) rfl
        cases want with
        | true =>
          cases b with
          | true => exact ⟨_, lit_get hv, .inl ⟨hgd true, h.t rfl⟩⟩
          | false => exact ⟨_, lit_get hv, .inr ⟨hgd false, h.f rfl⟩⟩
        | false =>
          cases b with
          | true => exact ⟨_, lit_get hv, .inr ⟨hgd true, h.t rfl⟩⟩
          | false => exact ⟨_, lit_get hv, .inl ⟨hgd false, h.f rfl⟩⟩
      · rename_i hv
        refine ⟨top, fun _ => rfl, .inr ⟨?_, h⟩⟩
        unfold gd
        simp only [hg]
        unfold gslot at hs
        cases hl : lget all j with
        | none => simp [hl] at hs
        | some oj =>
          simp only [hl] at hs
          simp only [hs, rget2_get hv, tr]
      · exact h.elim
    · exact h.elim

theorem putS_some {d : Option Nat} {v : Option RG} {top : RE} {K : RE → Prop} (h : putS N.n d v top K) : ∃ d' v', d = some d' ∧ v = some v' ∧ Nat.blt d' N.n = true ∧ K ((d', v') :: top) := by
  unfold putS at h
  split at h
  · split at h
    · split at h
      · rename_i hb; exact ⟨_, _, rfl, rfl, hb, h⟩
      · exact h.elim
    · exact h.elim
  · exact h.elim

/-- the picked operand -/
theorem pick_cases [Glob] {bot : RE} {d : Option Nat} {c x y : Operand} {top : RE} {K : RE → Prop} (h : pickN N.n bot d c x y top K) :
    ∃ b, ev (trE n0 (top ++ bot)) c = .bool b ∧ putS N.n d (evR top bot (if b then x else y)) top K := by
  unfold pickN at h
  split at h
  · rename_i hc; exact ⟨true, evR_ev hc, h⟩
  · rename_i hc; exact ⟨false, evR_ev hc, h⟩
  · rename_i b hc
    refine ⟨b, evR_ev hc, ?_⟩
    cases b with
    | true => exact h.t rfl
    | false => exact h.f rfl
  · exact h.elim

theorem pick_step [Glob] {env : Env} {hp : Hp} {o : Oper} {c x y : Operand} {b : Bool} (ho : o.op = .pick c x y) (hc : ev env c = .bool b) : Step P N hp env o (ev env (if b then x else y)) hp := by
  cases b with
  | true => exact st_pick_t ho hc nf_ne
  | false => exact st_pick_f ho hc nf_ne

theorem wpO_sound [Glob] (he : Env0 P T kn) {bot : RE} {all : List Oper} {Q : Env → Hp → Prop} {K : RE → Heap → Nat → Heap → Prop}
    (hK : ∀ top base k loc, base.length = n0 → K top base k loc → Q (trE n0 (top ++ bot)) ⟨base, k, loc⟩) :
    ∀ (rest : List Oper) (top : RE) (base : Heap) (k : Nat) (loc : Heap), base.length = n0 → wpO P kn T N n0 bot all rest K top base k loc → VO P N all rest Q (trE n0 (top ++ bot)) ⟨base, k, loc⟩
  | [], top, base, k, loc, hn, h => vo_nil (hK _ _ _ _ hn h)
  | o :: rest, top, base, k, loc, hn, h => by
    have ih := wpO_sound he (bot := bot) (all := all) hK rest
    have h : guardN bot all o top (opN P kn T N n0 bot o base k loc (wpO P kn T N n0 bot all rest K))
      (fun top => skipN N.n o.dst top fun top => wpO P kn T N n0 bot all rest K top base k loc) := h
    obtain ⟨top', he', h1⟩ := guard_cases (n0 := n0) h
    refine vo_env (env' := trE n0 (top' ++ bot)) ?_ (fun s => Wk.of_eq (he' s))
    rcases h1 with ⟨hg, hx⟩ | ⟨hg, hx⟩
    · unfold opN at hx
      split at hx
      · rename_i c x y ho
        obtain ⟨b, hc, hp⟩ := pick_cases hx
        obtain ⟨d, v, hd, hv, hb, hk⟩ := putS_some hp
        have := pick_step (P := P) (N := N) (hp := ⟨base, k, loc⟩) ho hc
        rw [evR_ev hv] at this
        exact vo_step this hg hd hb (ih _ _ _ _ hn hk)
      · exact vo_R he hn hg hx (fun top base k loc hn h => ih top base k loc hn h)
    · unfold skipN at hx
      split at hx
      · rename_i d hd
        split at hx
        · rename_i hb
          exact vo_skipped hg hd hb (ih _ _ _ _ hn hx)
        · exact hx.elim
      · rename_i hd
        exact vo_skippedU hg hd (ih _ _ _ _ hn hx)

/-! ### a region that draws its order -/
def closOf (all : List Oper) : List Nat :=
  all.foldl (fun acc o => acc ++ [o.after.toList.foldl (fun m e => if Region.binds .any e then m ||| 1 <<< e.on ||| acc.getD e.on 0 else m) 0]) []

inductive CallD [Glob] (W : List Nat) (P : Program) (F : Fn) (as : List AV) (n0 : Nat) (base loc0 b1 loc : Heap) (K : AV → Prop) (K3 : AV → Heap → Nat → Heap → Prop) : Prop where
  | det (v : AV) (h : ∀ l1, Tq W loc0 l1 → ∀ X : Heap, VFn P F as (base ++ l1 ++ X) fun r H' => H' = base ++ l1 ++ X ∧ r = v) (a : K v)
  | fix (v : AV) (b2 loc2 : Heap) (k2 : Nat) (h : VFn P F as (b1 ++ loc) fun r H' => r = v ∧ H' = b2 ++ loc2) (hb : b2.length = n0) (hk : loc2.length = k2) (a : K3 v b2 k2 loc2)

/-- how an operation of a drawn region is taken: by the memory ahead of the region; as a store; as one that makes or fills memory in the line -/
inductive DM where
  | pure
  | store
  | app

def dBase (st : DM) (base b1 : Heap) : Heap := match st with
  | .pure => base
  | .store => b1
  | .app => b1

/-- an owner is written over by itself, with more used -/
def tokAt (loc : Heap) (j : Nat) (B : Blk) : Bool := match lget loc j with
  | some C => match C with
    | .tok e sz _ => match B with
      | .tok e' sz' _ => match Nat.beq e e' with
        | true => Nat.beq sz sz'
        | false => false
      | _ => false
    | _ => false
  | none => false
theorem tokAt_spec {loc : Heap} {j : Nat} {B : Blk} (h : tokAt loc j B = true) : ∃ C, lget loc j = some C ∧ Tq1 C B ∧ C.isTok = true := by
  unfold tokAt at h
  split at h
  · rename_i C hC
    split at h
    · rename_i e sz n
      split at h
      · rename_i e' sz' n'
        split at h
        · rename_i he
          exact ⟨_, hC, .inr ⟨e, sz, n, n', rfl, by rw [Nat.eq_of_beq_eq_true he, Nat.eq_of_beq_eq_true h]⟩, rfl⟩
        · cases h
      · cases h
    · cases h
  · cases h
def wpSD [Glob] (W : List Nat) (st : DM) (P : Program) (n0 : Nat) (base loc0 b1 : Heap) (k : Nat) (loc : Heap) (K : Nat → Option RG → Heap → Nat → Heap → Prop) (s : SR) : Prop :=
  @SR.rec (fun _ => Prop) False
    (fun v => K 0 (some v) b1 k loc)
    (fun v => match st with
      | .pure => K 1 (some v) b1 k loc
      | .app => False
      | .store => False)
    (fun t l => match snocC loc (.box t l) with
      | some loc' => K 2 (some (.lp k 0)) b1 (k + 1) loc'
      | none => False)
    (fun j B v => match st with
      | .store => match v with
        | none => match lset loc j B with
          | some loc' => match inW W j with
            | true => K 4 none b1 k loc'
            | false => K 3 none b1 k loc'
          | none => False
        | some _ => False
      | .app => match v with
        | none => False
        | some v => match tokAt loc j B with
          | false => False
          | true => match lset loc j B with
            | some loc' => K 4 (some v) b1 k loc'
            | none => False
      | .pure => False)
    (fun i B v => match st with
      | .store => match v with
        | none => SetN b1 i B fun b2 => K 3 none b2 k loc
        | some _ => False
      | .app => match v with
        | some v => SetN b1 i B fun b2 => K 3 (some v) b2 k loc
        | none => False
      | .pure => False)
    (fun B v => match st with
      | .app => match snocC loc B with
        | some loc' => K 4 (some (v k)) b1 (k + 1) loc'
        | none => False
      | .pure => False
      | .store => False)
    (fun p _ ih => SideN p ih)
    (fun i _ _ ihl ihb => PtrN n0 (dBase st base b1) i ihl ihb)
    (fun l o _ ih => SegN l o ih)
    (fun i n _ ih => OfsN i n ih)
    (fun x _ ih => EqN x ih)
    (fun l o n _ ih => SubN l o n ih)
    (fun i _ ih => NatN i ih)
    (fun s i _ ih => ByteN s i ih)
    (fun _ _ iha ihb => OrN iha ihb)
    (fun fn as => match st with
      | .pure => CallD W P fn as n0 base loc0 b1 loc (fun r => K 1 (some (.v r)) b1 k loc) (fun r b2 k2 loc2 => K 3 (some (.v r)) b2 k2 loc2)
      | .app => False
      | .store => False)
    (fun S _ ih => RelN S ih)
    (fun _ _ => False)
    (fun _ _ => False) s

def dmOf : Op → DM
  | .store _ _ _ => .store
  | .mapUpdate _ _ _ _ => .store
  | .insert _ _ _ _ => .store
  | .range _ _ => .store
  | .next _ _ => .store
  | .entry _ => .store
  | .call { callee := .builtin .append, .. } => .app
  | _ => .pure

/-! what an operation reads does not hang on how much the owners have used -/
/-- what an operation reads of the memory is none of the boxes W -/
def rdOk [Glob] (W : List Nat) (top bot : RE) (op : Op) : Bool := match W with
  | [] => true
  | w :: W => match op with
    | .load _ x => match evR top bot x with
      | some (.lp j _) => match inW (w :: W) j with
        | true => false
        | false => true
      | some (.v (.rptr _)) => true
      | _ => false
    | .lookup _ _ _ _ => false
    | _ => true
/-- .. of a load's pointer -/
def rdP (W : List Nat) : Option RG → Prop
  | some (.lp j _) => inW W j = false
  | some (.v (.ptr _ _)) => W = []
  | _ => True
theorem rdOk_load [Glob] {W : List Nat} {top bot : RE} {t : TypeId} {x : Operand} (h : rdOk W top bot (.load t x) = true) : rdP W (evR top bot x) := by
  cases W with
  | nil =>
    unfold rdP
    split
    · rfl
    · rfl
    · trivial
  | cons w W =>
    simp only [rdOk] at h
    split at h
    · rename_i j o he
      rw [he]
      simp only [rdP]
      cases hj : inW (w :: W) j with
      | true => simp [hj] at h
      | false => rfl
    · rename_i l he
      rw [he]
      trivial
    · cases h
theorem rdOk_lookup [Glob] {W : List Nat} {top bot : RE} {t : TypeId} {x y : Operand} {ok : Bool} (h : rdOk W top bot (.lookup t x y ok) = true) : W = [] := by
  cases W with
  | nil => rfl
  | cons w W => simp [rdOk] at h
theorem loadS_tq {W : List Nat} {T : TypeId → Option TI} {t : TypeId} {loc l1 : Heap} (h : Tq W loc l1) : ∀ r : Option RG, rdP W r → loadS T t loc r = loadS T t l1 r
  | some (.lp j o), hr => by
    simp only [loadS]
    rcases h.at_ j hr with ⟨h1, h2⟩ | ⟨B, C, h1, h2, h3⟩
    · rw [h1, h2]
    · rcases h3 with rfl | ⟨e, sz, n, n', rfl, rfl⟩
      · rw [h1, h2]
      · rw [h1, h2]
  | some (.v a), hr => by
    cases a with
    | ptr i o =>
      have hr : W = [] := hr
      subst hr
      simp only [loadS]
      congr 1
      funext j
      rcases h.at_ j rfl with ⟨h1, h2⟩ | ⟨B, C, h1, h2, h3⟩
      · rw [h1, h2]
      · rcases h3 with rfl | ⟨e, sz, n, n', rfl, rfl⟩
        · rw [h1, h2]
        · rw [h1, h2]
    | _ => rfl
  | some (.lit _), _ => rfl
  | none, _ => rfl
theorem lookupS_tq {kn : TypeId → Nat} {T : TypeId → Option TI} {t : TypeId} {loc l1 : Heap} {ok : Bool} {m k : AV} (h : Tq [] loc l1) : lookupS kn T t loc ok m k = lookupS kn T t l1 ok m k := by
  unfold lookupS
  split
  · split
    · split
      · split
        · congr 1
          funext j
          rcases h.at_ j rfl with ⟨h1, h2⟩ | ⟨B, C, h1, h2, h3⟩
          · rw [h1, h2]
          · rcases h3 with rfl | ⟨e, sz, n, n', rfl, rfl⟩
            · rw [h1, h2]
            · rw [h1, h2]
        · rfl
        · rfl
        · rfl
      · rfl
    · rfl
  · rfl
theorem stepS_tq [Glob] {kn : TypeId → Nat} {T : TypeId → Option TI} {n0 : Nat} {W : List Nat} {top bot : RE} {loc l1 : Heap} {op : Op} (h : Tq W loc l1) (hd : dmOf op = .pure) (hr : rdOk W top bot op = true) : stepS kn T n0 top bot loc op = stepS kn T n0 top bot l1 op := by
  unfold stepS
  split
  all_goals first
    | rfl
    | exact loadS_tq h _ (rdOk_load hr)
    | (cases hd; done)
    | (obtain rfl := rdOk_lookup hr; congr 1; funext k; exact lookupS_tq h)
    | fail

def opD [Glob] (W : List Nat) (P : Program) (kn : TypeId → Nat) (T : TypeId → Option TI) (N : FN) (n0 : Nat) (bot : RE) (o : Oper) (base loc0 b1 : Heap) (k : Nat) (loc : Heap) (K : Nat → RE → Heap → Nat → Heap → Prop) (top : RE) : Prop :=
  match o.op with
  | .pick c x y => pickN N.n bot o.dst c x y top fun top => K 0 top b1 k loc
  | op => match dmOf op with
    | .store => wpSD W .store P n0 base loc0 b1 k loc (fun c v b1 k loc => putN N.n o.dst v top fun top => K c top b1 k loc) (stepS kn T n0 top bot loc op)
    | .app => wpSD W .app P n0 base loc0 b1 k loc (fun c v b1 k loc => putN N.n o.dst v top fun top => K c top b1 k loc) (stepS kn T n0 top bot loc op)
    | .pure => match rdOk W top bot op with
      | true => wpSD W .pure P n0 base loc0 b1 k loc (fun c v b1 k loc => putN N.n o.dst v top fun top => K c top b1 k loc) (stepS kn T n0 top bot loc0 op)
      | false => False

/-- the boxes that a drawn region writes and does not read -/
structure DrawN (k : List Nat → Prop) : Prop where
  h : ∃ W, k W
theorem DrawN.mk' {k : List Nat → Prop} (W : List Nat) (h : k W) : DrawN k := ⟨W, h⟩
def wpD [Glob] (W : List Nat) (P : Program) (kn : TypeId → Nat) (T : TypeId → Option TI) (N : FN) (n0 : Nat) (bot : RE) (all : List Oper) (base loc0 : Heap) (l : List Oper) (K : RE → Heap → Nat → Heap → Prop) : List Nat → RE → Heap → Nat → Heap → Prop :=
  @List.rec Oper (fun _ => List Nat → RE → Heap → Nat → Heap → Prop)
    (fun ks top b1 k loc => SideN ((drawOk all (closOf all) (ks.reverse) && dstOk N.n all) = true) (K top b1 k loc))
    (fun o _ ih ks top b1 k loc => guardN bot all o top
      (opD W P kn T N n0 bot o base loc0 b1 k loc (fun c top b1 k loc => ih (c :: ks) top b1 k loc))
      (fun top => skipN N.n o.dst top fun top => ih (0 :: ks) top b1 k loc)) l
end
end Go.Vsi
/-! text R5 -/
namespace Go.Vsi

section
variable {P : Program} {N : FN} {n0 : Nat} {T : TypeId → Option TI} {kn : TypeId → Nat}

theorem gd_congr {all : List Oper} {o : Oper} {e e' : Env} (h : ∀ s, get e s = get e' s) : gd all e' o = gd all e o := by
  unfold gd
  simp only [h]

theorem fop_congr [Glob] {I : Hp → Prop} {all : List Oper} {d : DOp} {e e' : Env} {hp hp' : Hp} (h : ∀ s, get e s = get e' s) (hf : FOp P N I all d e hp hp') : FOp P N I all d e' hp hp' := by
  have hag : ∀ ts env', Agree ts e' env' → Agree ts e env' := fun ts env' ha t ht => by rw [ha t ht, h]
  unfold FOp at hf ⊢
  rw [gd_congr h]
  cases hgd : gd all e d.o with
  | none => simp only [hgd] at hf
  | some b =>
    simp only [hgd] at hf ⊢
    cases b with
    | false => exact hf
    | true =>
      simp only at hf ⊢
      cases hk : d.k with
      | r => simp only [hk] at hf ⊢; exact ⟨fun env' ha => hf.1 env' (hag _ _ ha), hf.2⟩
      | m => simp only [hk] at hf ⊢; exact ⟨fun env' ha => hf.1 env' (hag _ _ ha), hf.2⟩
      | a B => simp only [hk] at hf ⊢; exact ⟨hf.1, hf.2.1, fun env' ha => hf.2.2.1 env' (hag _ _ ha), hf.2.2.2⟩
      | w => simp only [hk] at hf ⊢; exact ⟨hf.1, fun env' ha => hf.2 env' (hag _ _ ha)⟩

theorem df_congr [Glob] {I : Hp → Prop} {all : List Oper} {K : Env → Hp → Prop} (hK : ∀ e1 e2 hp, (∀ s, get e1 s = get e2 s) → K e1 hp → K e2 hp) : ∀ {ds : List DOp} {e e' : Env} {hp : Hp}, (∀ s, get e s = get e' s) → DF P N I all ds e hp K → DF P N I all ds e' hp K
  | [], e, e', hp, h, hd => hK e e' hp h hd
  | d :: ds, e, e', hp, h, ⟨hp', h1, h2⟩ => by
    refine ⟨hp', fop_congr h h1, df_congr hK (fun s => ?_) h2⟩
    rw [get_push, get_push, h]

theorem dr_congr [Glob] {I : Hp → Prop} {all rest : List Oper} {ks : List Nat} {K : Env → Hp → Prop} {e e' : Env} {hp : Hp} (hK : ∀ e1 e2 hp, (∀ s, get e1 s = get e2 s) → K e1 hp → K e2 hp) (h : ∀ s, get e s = get e' s) (hd : DR P N I all rest ks e hp K) : DR P N I all rest ks e' hp K := by
  obtain ⟨ds, h1, h2, h3⟩ := hd
  exact ⟨ds, h1, h2, df_congr hK h h3⟩

/-! ### an operation looks at its operands alone -/
def restrR (ts : List Nat) (top bot : RE) : RE := ts.filterMap fun t => (rget2 top bot t).map fun v => (t, v)
theorem restrR_get {top bot : RE} {t : Nat} : ∀ {ts : List Nat}, rgetO (restrR ts top bot) t = if t ∈ ts then rget2 top bot t else none
  | [] => by simp [restrR, rgetO]
  | s :: ts => by
    have ih := restrR_get (top := top) (bot := bot) (t := t) (ts := ts)
    unfold restrR at ih ⊢
    rw [List.filterMap_cons]
    by_cases hst : s = t
    · subst hst
      cases hv : rget2 top bot s with
      | none =>
        simp only [hv, Option.map_none]
        rw [ih]
        simp [hv]
      | some v => simp [rgetO, hv]
    · cases hv : rget2 top bot s with
      | none => simp only [hv, Option.map_none]; rw [ih]; simp [Ne.symm hst]
      | some v =>
        have hb : Nat.beq s t = false := by
          cases hb : Nat.beq s t
          · rfl
          · exact absurd (Nat.eq_of_beq_eq_true hb) hst
        simp only [hv, Option.map_some, rgetO, hb, ih, List.mem_cons, Ne.symm hst, false_or]

theorem restr_apx [Glob] {g : G} {w : World} {a : Act} {ts : List Nat} {top bot : RE} {env' : Env} (ha : Agree ts (trE n0 (top ++ bot)) env') (hE : ERel N g w env' a) : ERel N g w (trE n0 (restrR ts top bot ++ [])) a := by
  refine ⟨hE.1, fun s => ?_, hE.ro, hE.glob⟩
  cases hv : rgetO (restrR ts top bot) s with
  | none =>
    rw [List.append_nil]
    have := rgetO_none (n0 := n0) hv []
    simp only [List.append_nil] at this
    rw [this]
    simp [get, VRel]
  | some v =>
    have h1 := rgetO_get (n0 := n0) hv []
    simp only [List.append_nil] at h1
    rw [List.append_nil, h1]
    rw [restrR_get] at hv
    split at hv
    · rename_i hs
      rw [← rget2_get hv, ← ha s hs]
      exact hE.rel s
    · cases hv

theorem restr_ev [Glob] {ts : List Nat} {top bot : RE} {x : Operand} (hx : ∀ t, x = .tmp t → t ∈ ts) : evR (restrR ts top bot) [] x = evR top bot x := by
  cases x with
  | tmp t =>
    change (match rgetO (restrR ts top bot) t with
      | some v => some v
      | none => rgetO [] t) = rget2 top bot t
    rw [restrR_get, if_pos (hx t rfl)]
    cases rget2 top bot t <;> rfl
  | const c => rfl
  | func f => rfl
  | global g => rfl

theorem restr_op [Glob] {top bot : RE} {op : Op} {x : Operand} (hx : x ∈ op.operands.toList) : evR (restrR (opTs op) top bot) [] x = evR top bot x :=
  restr_ev fun t ht => by
    subst ht
    unfold opTs
    exact List.mem_filterMap.2 ⟨_, hx, rfl⟩

theorem avL_congr [Glob] {t1 b1 t2 b2 : RE} : ∀ {l : List Operand}, (∀ x ∈ l, evR t1 b1 x = evR t2 b2 x) → avL n0 t1 b1 l = avL n0 t2 b2 l
  | [], _ => rfl
  | x :: l, h => by simp only [avL, av]; rw [h x (by simp), avL_congr fun y hy => h y (by simp [hy])]
theorem avP_congr [Glob] {t1 b1 t2 b2 : RE} : ∀ {l : List (Nat × Operand)}, (∀ p ∈ l, evR t1 b1 p.2 = evR t2 b2 p.2) → avP n0 t1 b1 l = avP n0 t2 b2 l
  | [], _ => rfl
  | (i, x) :: l, h => by simp only [avP, av]; rw [h (i, x) (by simp), avP_congr fun y hy => h y (by simp [hy])]

theorem avF_congr [Glob] {t1 b1 t2 b2 : RE} {x : Operand} (h : evR t1 b1 x = evR t2 b2 x) : avF n0 t1 b1 x = avF n0 t2 b2 x := by unfold avF; rw [h]
theorem avLF_congr [Glob] {t1 b1 t2 b2 : RE} : ∀ {l : List Operand}, (∀ x ∈ l, evR t1 b1 x = evR t2 b2 x) → avLF n0 t1 b1 l = avLF n0 t2 b2 l
  | [], _ => rfl
  | x :: l, h => by simp only [avLF]; rw [avF_congr (h x (by simp)), avLF_congr fun y hy => h y (by simp [hy])]
theorem avPF_congr [Glob] {t1 b1 t2 b2 : RE} : ∀ {l : List (Nat × Operand)}, (∀ p ∈ l, evR t1 b1 p.2 = evR t2 b2 p.2) → avPF n0 t1 b1 l = avPF n0 t2 b2 l
  | [], _ => rfl
  | (i, x) :: l, h => by simp only [avPF]; rw [avF_congr (h (i, x) (by simp)), avPF_congr fun y hy => h y (by simp [hy])]

theorem stepS_restr [Glob] {top bot : RE} {loc : Heap} {op : Op} : stepS kn T n0 (restrR (opTs op) top bot) [] loc op = stepS kn T n0 top bot loc op := by
  have ea : ∀ x, x ∈ op.operands.toList → evR (restrR (opTs op) top bot) [] x = evR top bot x := fun x hx => restr_op hx
  generalize restrR (opTs op) top bot = top' at ea ⊢
  have ea' : ∀ x, x ∈ op.operands.toList → av n0 top' [] x = av n0 top bot x := fun x hx => by unfold av; rw [ea x hx]
  unfold stepS
  split <;> try simp only [Op.operands, Call.operands] at ea ea'
  · rw [ea _ (by simp)]
  · rw [ea _ (by simp)]
  · rename_i op t x y u; rw [ea' x (by simp), ea' y (by simp)]
  · rw [ea' _ (by simp)]
  · rw [ea' _ (by simp)]
  · rw [ea' _ (by simp)]
  · rw [ea' _ (by simp)]
  · rw [ea' _ (by simp)]
  · rw [ea _ (by simp)]
  · rw [ea' _ (by simp)]
  · rw [ea _ (by simp)]
  · rw [ea _ (by simp)]
  · rename_i t x y; rw [ea x (by simp), avF_congr (ea y (by simp))]
  · rfl
  · rw [avF_congr (ea _ (by simp))]
  · rename_i t ps
    rw [avPF_congr fun p hp => ea p.2 (by simp only [List.mem_map]; exact ⟨p, hp, rfl⟩)]
  · rename_i t n ps
    rw [avPF_congr fun p hp => ea p.2 (by simp only [List.mem_map]; exact ⟨p, hp, rfl⟩)]
  · rename_i t x y; rw [ea x (by simp), ea' y (by simp)]
  · rename_i fn fs cs
    rw [avLF_congr (l := fs) fun x hx => ea x (by simp; exact .inl hx), avLF_congr (l := cs) fun x hx => ea x (by simp; exact .inr hx)]
  · rename_i t x low high max
    have ho : ∀ q : Option Operand, (∀ y, q = some y → y ∈ (x :: (low.toList ++ (high.toList ++ max.toList)))) → avO n0 top' [] q = avO n0 top bot q := fun q hq => by
      cases q with
      | none => rfl
      | some y => simp only [avO]; rw [ea' y (by have := hq y rfl; simpa using this)]
    rw [ea' x (by simp), ho low (by intro y hy; simp [hy]), ho high (by intro y hy; simp [hy]), ho max (by intro y hy; simp [hy])]
  · rename_i t x y; rw [ea' x (by simp), ea' y (by simp)]
  · rename_i t x y; rw [ea' x (by simp), ea' y (by simp)]
  · rfl
  · rename_i t x y ok; rw [ea' x (by simp), avF_congr (ea y (by simp))]
  · rename_i t x y z; rw [ea' x (by simp), avF_congr (ea y (by simp)), avF_congr (ea z (by simp))]
  · rename_i t x y z; rw [ea' x (by simp), avF_congr (ea y (by simp)), avF_congr (ea z (by simp))]
  · rw [ea' _ (by simp)]
  · rw [ea _ (by simp)]
  · rw [ea _ (by simp)]
  · rw [ea' _ (by simp)]
  · rename_i x y t u; rw [ea' x (by simp), ea' y (by simp)]
  · rename_i x y ts; rw [ea' x (by simp), ea' y (by simp)]
  · rename_i x y ts; rw [ea' x (by simp), ea' y (by simp)]
  · rename_i f xs ts
    rw [avLF_congr (l := xs) fun x hx => ea x (by simp; exact .inr hx), ea' f (by simp)]
  · rfl

theorem step_restr [Glob] {hp hp' : Hp} {o : Oper} {v : AV} {top bot : RE} {env' : Env} (ha : Agree (opTs o.op) (trE n0 (top ++ bot)) env') (h : Step P N hp (trE n0 (restrR (opTs o.op) top bot ++ [])) o v hp') : Step P N hp env' o v hp' :=
  fun g w a hH hE => h g w a hH (restr_apx ha hE)

theorem wpSD_leaf [Glob] {W : List Nat} {st : DM} {base loc0 b1 : Heap} {k : Nat} {loc : Heap} {K : Nat → Option RG → Heap → Nat → Heap → Prop} : ∀ (s : SR), wpSD W st P n0 base loc0 b1 k loc K s → ∃ r, Res n0 (dBase st base b1) s r ∧ leaf r = true ∧ wpSD W st P n0 base loc0 b1 k loc K r
  | .fail, h => h.elim
  | .reg v, h => ⟨_, .refl _, rfl, h⟩
  | .mem v, h => ⟨_, .refl _, rfl, h⟩
  | .box t l, h => ⟨_, .refl _, rfl, h⟩
  | .upd j B v, h => ⟨_, .refl _, rfl, h⟩
  | .updB i B v, h => ⟨_, .refl _, rfl, h⟩
  | .blk B v, h => ⟨_, .refl _, rfl, h⟩
  | .call f as, h => ⟨_, .refl _, rfl, h⟩
  | .anyU j S, h => h.elim
  | .blkU S v, h => h.elim
  | .rel S kk, h => by
    obtain ⟨y, z, h1, h2⟩ := h
    obtain ⟨r, h3, h4⟩ := wpSD_leaf (kk y z) h2
    exact ⟨r, .rel h1 h3, h4⟩
  | .side p s, h => by
    obtain ⟨r, h1, h2⟩ := wpSD_leaf s h.rest
    exact ⟨r, .side h.side h1, h2⟩
  | .ptr i kl kb, h => by
    cases h with
    | loc j h1 h2 =>
      obtain ⟨r, h3, h4⟩ := wpSD_leaf (kl j) h2
      exact ⟨r, .ptrL h1 h3, h4⟩
    | base B h1 h2 =>
      obtain ⟨r, h3, h4⟩ := wpSD_leaf (kb B) h2
      exact ⟨r, .ptrB h1 h3, h4⟩
  | .seg l o kk, h => by
    obtain ⟨l', h1, h2⟩ := h
    obtain ⟨r, h3, h4⟩ := wpSD_leaf (kk l') h2
    exact ⟨r, .seg h1 h3, h4⟩
  | .ofs i n kk, h => by
    obtain ⟨m, h1, h2, h3⟩ := h
    obtain ⟨r, h4, h5⟩ := wpSD_leaf (kk m) h3
    exact ⟨r, .ofs h1 h2 h4, h5⟩
  | .eqv x kk, h => by
    obtain ⟨y, h1, h2⟩ := h
    obtain ⟨r, h3, h4⟩ := wpSD_leaf (kk y) h2
    exact ⟨r, .eqv h1 h3, h4⟩
  | .sub l o n kk, h => by
    obtain ⟨y, h1, h2⟩ := h
    obtain ⟨r, h3, h4⟩ := wpSD_leaf (kk y) h2
    exact ⟨r, .sub h1 h3, h4⟩
  | .nat i kk, h => by
    obtain ⟨y, h1, h2⟩ := h
    obtain ⟨r, h3, h4⟩ := wpSD_leaf (kk y) h2
    exact ⟨r, .nat h1 h3, h4⟩
  | .byte s i kk, h => by
    obtain ⟨y, h1, h2⟩ := h
    obtain ⟨r, h3, h4⟩ := wpSD_leaf (kk y) h2
    exact ⟨r, .byte h1 h3, h4⟩
  | .or a b, h => by
    rcases h with h | h
    · obtain ⟨r, h3, h4⟩ := wpSD_leaf a h
      exact ⟨r, .orl h3, h4⟩
    · obtain ⟨r, h3, h4⟩ := wpSD_leaf b h
      exact ⟨r, .orr h3, h4⟩

theorem putN_reg {d : Option Nat} {v : RG} {top : RE} {K : RE → Prop} (h : putN N.n d (some v) top K) : ∃ d', d = some d' ∧ Nat.blt d' N.n = true ∧ K ((d', v) :: top) := by
  unfold putN at h
  split at h
  · simp only at h
    split at h
    · rename_i hb; exact ⟨_, rfl, hb, h⟩
    · exact h.elim
  · exact h.elim
theorem putN_none {d : Option Nat} {top : RE} {K : RE → Prop} (h : putN N.n d none top K) : d = none ∧ K top := by
  unfold putN at h
  split at h
  · exact h.elim
  · exact ⟨rfl, h⟩

/-- the memory is that ahead of the region, and more -/
def Tame (W : List Nat) (loc0 : Heap) (k0 : Nat) (loc : Heap) (k : Nat) : Prop := ∃ l1 X, Tq W loc0 l1 ∧ loc = l1 ++ X ∧ k = k0 + X.length
def IW (W : List Nat) (base : Heap) (k0 : Nat) (loc0 : Heap) : Hp → Prop := fun hp => ∃ l1 X, Tq W loc0 l1 ∧ hp = ⟨base, k0 + X.length, l1 ++ X⟩
theorem Tame.refl (W : List Nat) (loc : Heap) (k : Nat) : Tame W loc k loc k := ⟨loc, [], Tq.refl _, by simp, by simp⟩
theorem Tame.iw {W : List Nat} {base loc0 loc : Heap} {k0 k : Nat} (h : Tame W loc0 k0 loc k) : IW W base k0 loc0 ⟨base, k, loc⟩ := by
  obtain ⟨l1, X, hq, rfl, rfl⟩ := h
  exact ⟨l1, X, hq, rfl⟩
theorem Tame.snoc {W : List Nat} {loc0 loc loc' : Heap} {k0 k : Nat} {B : Blk} (h : Tame W loc0 k0 loc k) (hl : snocC loc B = some loc') : Tame W loc0 k0 loc' (k + 1) := by
  obtain ⟨l1, X, hq, rfl, rfl⟩ := h
  exact ⟨l1, X ++ [B], hq, by rw [snocC_eq _ _ _ hl, List.append_assoc], by simp; omega⟩
theorem Tame.set {W : List Nat} {loc0 loc loc' : Heap} {k0 k j : Nat} {B : Blk} (h : Tame W loc0 k0 loc k) (hj : inW W j = false → tokAt loc j B = true) (hl : lset loc j B = some loc') : Tame W loc0 k0 loc' k := by
  obtain ⟨l1, X, hq, rfl, rfl⟩ := h
  rw [(lset_eq _ _ _ _ hl).1]
  rcases Nat.lt_or_ge j l1.length with h | h
  · rw [List.set_append_left _ _ h]
    cases hw : inW W j with
    | true => exact ⟨l1.set j B, X, hq.set (B := B) j (fun e => by rw [hw] at e; cases e), rfl, rfl⟩
    | false =>
      obtain ⟨C, hC, h1, h2⟩ := tokAt_spec (hj hw)
      refine ⟨l1.set j B, X, hq.set (B := C) j (fun _ => ⟨?_, h1, h2⟩), rfl, rfl⟩
      rw [lget_eq] at hC ⊢
      rwa [List.getElem?_append_left h] at hC
  · rw [List.set_append_right _ _ h]
    exact ⟨l1, X.set (j - l1.length) B, hq, rfl, by simp⟩

/-- one operation of a drawn region -/
theorem dr_R [Glob] (he : Env0 P T kn) {W : List Nat} {st : DM} {base loc0 b1 : Heap} {k0 k : Nat} {loc locS : Heap} (hn : base.length = n0) (hn1 : b1.length = n0) {all rest : List Oper} {o : Oper} {top bot : RE} {K' : Env → Hp → Prop} {K : Nat → RE → Heap → Nat → Heap → Prop}
    (hg : gd all (trE n0 (top ++ bot)) o = some true) (hS : locS = match st with
      | .pure => loc0
      | .store => loc
      | .app => loc) (hst : st = .pure → dmOf o.op = .pure ∧ rdOk W top bot o.op = true)
    (h : wpSD W st P n0 base loc0 b1 k loc (fun c v b1 k loc => putN N.n o.dst v top fun top => K c top b1 k loc) (stepS kn T n0 top bot locS o.op))
    : ∃ c top' b2 k' loc', b2.length = n0 ∧ K c top' b2 k' loc' ∧ (c ≠ 3 → b1 = base ∧ Tame W loc0 k0 loc k → b2 = base ∧ Tame W loc0 k0 loc' k') ∧ ∀ ks, (c = 4 → b1 = base ∧ Tame W loc0 k0 loc k) → DR P N (IW W base k0 loc0) all rest ks (trE n0 (top' ++ bot)) ⟨b2, k', loc'⟩ K' → DR P N (IW W base k0 loc0) all (o :: rest) (c :: ks) (trE n0 (top ++ bot)) ⟨b1, k, loc⟩ K' := by
  obtain ⟨r, h1, h2, h3⟩ := wpSD_leaf _ h
  have h1' := h1
  rw [← stepS_restr] at h1'
  have hdb : (dBase st base b1).length = n0 := by cases st <;> assumption
  cases r with
  | reg v =>
    simp only [wpSD] at h3
    obtain ⟨d, hd, hb, hk⟩ := putN_reg h3
    have hlf := step_leaf (N := N) (k := k) he hdb rfl h1' h2
    exact ⟨_, _, _, _, _, hn1, hk, fun _ h => h, fun ks _ hdr => dr_r (fun env' ha hp => step_restr ha (hlf hp)) hg hd hdr⟩
  | mem v =>
    simp only [wpSD] at h3
    cases st with
    | store => exact h3.elim
    | app => exact h3.elim
    | pure =>
    simp only at hS
    subst hS
    obtain ⟨d, hd, hb, hk⟩ := putN_reg h3
    exact ⟨_, _, _, _, _, hn1, hk, fun _ h => h, fun ks _ hdr => dr_m (fun env' ha hp hI => by
      obtain ⟨l1, X, hq, rfl⟩ := hI
      exact xok_of_step (step_restr ha (step_leaf (N := N) (k := k0) (loc := l1) he hn rfl (by rw [stepS_restr, ← stepS_tq hq (hst rfl).1 (hst rfl).2]; exact h1) h2 X))) hg hd hdr⟩
  | box t l =>
    simp only [wpSD] at h3
    split at h3
    · rename_i loc' hl
      obtain ⟨d, hd, hb, hk⟩ := putN_reg h3
      have hlf := step_leaf (N := N) (k := k) he hdb rfl h1' h2
      refine ⟨_, _, _, _, _, hn1, hk, fun _ h => ⟨h.1, h.2.snoc hl⟩, fun ks _ hdr => dr_a (B := .box t l) (fun env' ha g w a hE => hlf g w a (restr_apx ha hE)) hl hg hd ?_⟩
      rw [hn1]; exact hdr
    · exact h3.elim
  | upd j B v =>
    simp only [wpSD] at h3
    cases st with
    | pure => exact h3.elim
    | app =>
      simp only at hS h3
      subst hS
      cases v with
      | none => exact h3.elim
      | some v =>
      simp only at h3
      split at h3
      · exact h3.elim
      · rename_i hj
        split at h3
        · rename_i loc' hl
          obtain ⟨d, hd, hb, hk⟩ := putN_reg h3
          have hlf := step_leaf (N := N) (k := k) he hdb rfl h1' h2
          refine ⟨_, _, _, _, _, hn1, hk, fun _ h => ⟨h.1, h.2.set (fun _ => hj) hl⟩, fun ks ht hdr => ?_⟩
          obtain ⟨hb1, ht2⟩ := ht rfl
          subst hb1
          exact dr_x (hp' := ⟨b1, k, loc'⟩) (fun env' ha => step_restr ha (hlf loc' hl)) (ht2.set (fun _ => hj) hl).iw hg hd hdr
        · exact h3.elim
    | store =>
    simp only at hS h3
    subst hS
    cases v with
    | some v => exact h3.elim
    | none =>
    simp only at h3
    split at h3
    · rename_i loc' hl
      have hlf := step_leaf (N := N) (k := k) he hdb rfl h1' h2
      cases hw : inW W j with
      | false =>
        simp only [hw] at h3
        obtain ⟨hd, hk⟩ := putN_none h3
        exact ⟨_, _, _, _, _, hn1, hk, fun h => absurd rfl h, fun ks _ hdr => dr_w (hp' := ⟨b1, k, loc'⟩) (fun env' ha g w a hH hE => hlf loc' hl g w a hH (restr_apx ha hE)) hg hd hdr⟩
      | true =>
        simp only [hw] at h3
        obtain ⟨hd, hk⟩ := putN_none h3
        have hnw : inW W j = false → tokAt locS j B = true := fun e => by rw [hw] at e; cases e
        refine ⟨_, _, _, _, _, hn1, hk, fun _ h => ⟨h.1, h.2.set hnw hl⟩, fun ks ht hdr => ?_⟩
        obtain ⟨hb1, ht2⟩ := ht rfl
        subst hb1
        exact dr_wt (hp' := ⟨b1, k, loc'⟩) (fun env' ha g w a hH hE => hlf loc' hl g w a hH (restr_apx ha hE)) (ht2.set hnw hl).iw hg hd hdr
    · exact h3.elim
  | updB i B v =>
    simp only [wpSD] at h3
    cases st with
    | pure => exact h3.elim
    | store =>
      simp only at hS h3
      subst hS
      cases v with
      | some v => exact h3.elim
      | none =>
      obtain ⟨b2, hset, h3⟩ := h3
      subst hset
      obtain ⟨hd, hk⟩ := putN_none h3
      have hlf := step_leaf (N := N) (k := k) he hdb rfl h1' h2
      exact ⟨_, _, _, _, _, by simpa using hn1, hk, fun h => absurd rfl h, fun ks _ hdr => dr_w (hp' := ⟨b1.set i B, k, locS⟩) (fun env' ha g w a hH hE => hlf g w a hH (restr_apx ha hE)) hg hd hdr⟩
    | app =>
      simp only at hS h3
      subst hS
      cases v with
      | none => exact h3.elim
      | some v =>
      obtain ⟨b2, hset, h3⟩ := h3
      subst hset
      obtain ⟨d, hd, hb, hk⟩ := putN_reg h3
      have hlf := step_leaf (N := N) (k := k) he hdb rfl h1' h2
      refine ⟨_, _, _, _, _, by simpa using hn1, hk, fun h => absurd rfl h, fun ks _ hdr => dr_g (hp' := ⟨b1.set i B, k, locS⟩) (fun env' ha g w a hH hE K Qc kk => ?_) hg hd hdr⟩
      obtain ⟨c, g', w', e1, e2, e3, e4⟩ := hlf g w a hH (restr_apx ha hE)
      exact opIn_value e1 (kk g' w' c e2 e3 e4)
  | blk B v =>
    simp only [wpSD] at h3
    cases st with
    | pure => exact h3.elim
    | store => exact h3.elim
    | app =>
    simp only at hS h3
    subst hS
    split at h3
    · rename_i loc' hl
      obtain ⟨d, hd, hb, hk⟩ := putN_reg h3
      have hlf := step_leaf (N := N) (k := k) he hdb rfl h1' h2
      refine ⟨_, _, _, _, _, hn1, hk, fun _ h => ⟨h.1, h.2.snoc hl⟩, fun ks ht hdr => ?_⟩
      obtain ⟨hb1, ht2⟩ := ht rfl
      subst hb1
      refine dr_x (hp' := ⟨b1, k + 1, loc'⟩) (fun env' ha => ?_) ?_ hg hd hdr
      · rw [snocC_eq _ _ _ hl]
        exact step_restr ha hlf
      · exact (ht2.snoc hl).iw
    · exact h3.elim
  | anyU j S => exact h3.elim
  | blkU S v => exact h3.elim
  | call fn as =>
    simp only [wpSD] at h3
    cases st with
    | store => exact h3.elim
    | app => exact h3.elim
    | pure =>
    have hlf := step_leaf (N := N) (k := k) he hdb rfl h1' h2
    obtain ⟨f, xs, ts, fs, cs, ws, ho, hf, has, hw⟩ := hlf
    cases h3 with
    | det v hc hk =>
      obtain ⟨d, hd, hb, hk⟩ := putN_reg hk
      refine ⟨_, _, _, _, _, hn1, hk, fun _ h => h, fun ks _ hdr => dr_m (fun env' ha hp hI => ?_) hg hd hdr⟩
      obtain ⟨l1, X, hq, rfl⟩ := hI
      intro g w a hH hE K Qc kk
      have hE' := restr_apx ha hE
      have hall : (⟨base, k0 + X.length, l1 ++ X⟩ : Hp).all = base ++ l1 ++ X := by simp [Hp.all]
      have hof := hH.of
      rw [hall] at hof
      refine call_wp ho hf (hw g w a hE') has (hc l1 hq X) hof hE' ?_
      rintro r H' g' w' c ⟨rfl, rfl⟩ hH' hv hx'
      exact kk g' w' c (hH'.see (hp := ⟨base, k0, l1⟩) ⟨hall, hH.k⟩) hv hx'
    | fix v b2 loc2 k2 hc hb2 hk2 hk =>
      obtain ⟨d, hd, hb, hk⟩ := putN_reg hk
      refine ⟨_, _, _, _, _, hb2, hk, fun h => absurd rfl h, fun ks _ hdr => dr_g (hp' := ⟨b2, k2, loc2⟩) (fun env' ha => ?_) hg hd hdr⟩
      intro g w a hH hE K Qc kk
      have hE' := restr_apx ha hE
      refine call_wp ho hf (hw g w a hE') has hc hH.of hE' ?_
      rintro r H' g' w' c ⟨rfl, rfl⟩ hH' hv hx'
      exact kk g' w' c (hH'.see (hp := ⟨b1, k, loc⟩) ⟨rfl, hk2⟩) hv hx'
  | fail => cases h2
  | side _ _ => cases h2
  | ptr _ _ _ => cases h2
  | seg _ _ _ => cases h2
  | ofs _ _ _ => cases h2
  | eqv _ _ => cases h2
  | sub _ _ _ _ => cases h2
  | nat _ _ => cases h2
  | byte _ _ _ => cases h2
  | or _ _ => cases h2
  | rel _ _ => cases h2

def KD (n0 : Nat) (bot : RE) (K : RE → Heap → Nat → Heap → Prop) : Env → Hp → Prop := fun env hp => ∃ top b1 k loc, Apx n0 env (top ++ bot) ∧ hp = ⟨b1, k, loc⟩ ∧ b1.length = n0 ∧ K top b1 k loc
theorem KD.congr {bot : RE} {K : RE → Heap → Nat → Heap → Prop} (e1 e2 : Env) (hp : Hp) (h : ∀ s, get e1 s = get e2 s) (hk : KD n0 bot K e1 hp) : KD n0 bot K e2 hp := by
  obtain ⟨top, b1, k, loc, h1, h2, h3, h4⟩ := hk
  exact ⟨top, b1, k, loc, fun s => by rw [← h]; exact h1 s, h2, h3, h4⟩

theorem pick_agree [Glob] {env env' : Env} {o : Oper} {c x y : Operand} {b : Bool} {hp : Hp} (ho : o.op = .pick c x y) (ha : Agree (opTs o.op) env env') (hc : ev env c = .bool b) : Step P N hp env' o (ev env (if b then x else y)) hp := by
  have e1 : ev env' c = ev env c := ev_agree_op ha (by rw [ho]; simp [Op.operands])
  have e2 : ev env' (if b then x else y) = ev env (if b then x else y) := ev_agree_op ha (by rw [ho]; cases b <;> simp [Op.operands])
  rw [← e2]
  exact pick_step ho (by rw [e1]; exact hc)

theorem wpD_sound [Glob] (he : Env0 P T kn) {W : List Nat} {bot : RE} {all : List Oper} {base loc0 : Heap} {k0 : Nat} (hn : base.length = n0) {K : RE → Heap → Nat → Heap → Prop} :
    ∀ (rest : List Oper) (ks : List Nat) (top : RE) (b1 : Heap) (k : Nat) (loc : Heap), b1.length = n0 → (3 ∉ ks → b1 = base ∧ Tame W loc0 k0 loc k) → wpD W P kn T N n0 bot all base loc0 rest K ks top b1 k loc →
      ∃ ks', (drawOk all (closOf all) (ks.reverse ++ ks') && dstOk N.n all) = true ∧ DR P N (IW W base k0 loc0) all rest ks' (trE n0 (top ++ bot)) ⟨b1, k, loc⟩ (KD n0 bot K)
  | [], ks, top, b1, k, loc, hn1, _, h => ⟨[], by rw [List.append_nil]; exact h.side, dr_nil ⟨top, b1, k, loc, Apx.refl _ _, rfl, hn1, h.rest⟩⟩
  | o :: rest, ks, top, b1, k, loc, hn1, htm, h => by
    have ih := wpD_sound he (W := W) (bot := bot) (all := all) (loc0 := loc0) (k0 := k0) (K := K) hn rest
    have h : guardN bot all o top
      (opD W P kn T N n0 bot o base loc0 b1 k loc (fun c top b1 k loc => wpD W P kn T N n0 bot all base loc0 rest K (c :: ks) top b1 k loc))
      (fun top => skipN N.n o.dst top fun top => wpD W P kn T N n0 bot all base loc0 rest K (0 :: ks) top b1 k loc) := h
    obtain ⟨top', he', h1⟩ := guard_cases (n0 := n0) h
    suffices hs : ∃ ks', (drawOk all (closOf all) (ks.reverse ++ ks') && dstOk N.n all) = true ∧ DR P N (IW W base k0 loc0) all (o :: rest) ks' (trE n0 (top' ++ bot)) ⟨b1, k, loc⟩ (KD n0 bot K) by
      obtain ⟨ks', e1, e2⟩ := hs
      exact ⟨ks', e1, dr_congr KD.congr (fun s => (he' s).symm) e2⟩
    have hks : ∀ (c : Nat) (ks' : List Nat), (c :: ks).reverse ++ ks' = ks.reverse ++ (c :: ks') := by simp
    rcases h1 with ⟨hg, hx⟩ | ⟨hg, hx⟩
    · have fin : ∀ (st : DM) (locS : Heap), (locS = match st with
          | .pure => loc0
          | .store => loc
          | .app => loc) → (st = .pure → dmOf o.op = .pure ∧ rdOk W top' bot o.op = true) → wpSD W st P n0 base loc0 b1 k loc (fun c v b1 k loc => putN N.n o.dst v top' fun top => wpD W P kn T N n0 bot all base loc0 rest K (c :: ks) top b1 k loc) (stepS kn T n0 top' bot locS o.op) →
          ∃ ks', (drawOk all (closOf all) (ks.reverse ++ ks') && dstOk N.n all) = true ∧ DR P N (IW W base k0 loc0) all (o :: rest) ks' (trE n0 (top' ++ bot)) ⟨b1, k, loc⟩ (KD n0 bot K) := by
        intro st locS hS hst hw
        obtain ⟨c, top2, b2, k2, loc2, hb2, hk, htm2, hdr⟩ := dr_R (k0 := k0) (rest := rest) (K' := KD n0 bot K) he hn hn1 hg hS hst hw
        obtain ⟨ks', e1, e2⟩ := ih _ _ _ _ _ hb2 (fun h3 => by
          rw [List.mem_cons, not_or] at h3
          exact htm2 (fun e => h3.1 e.symm) (htm h3.2)) hk
        rw [hks] at e1
        refine ⟨c :: ks', e1, hdr ks' (fun hc => htm fun h3 => ?_) e2⟩
        subst hc
        rw [Bool.and_eq_true] at e1
        exact drawOk_tame e1.1 (List.mem_reverse.2 h3)
      unfold opD at hx
      split at hx
      · rename_i c x y ho
        obtain ⟨b, hc, hp⟩ := pick_cases hx
        obtain ⟨d, v, hd, hv, hb, hk⟩ := putS_some hp
        obtain ⟨ks', e1, e2⟩ := ih _ _ _ _ _ hn1 (fun h3 => htm (fun h => h3 (List.mem_cons_of_mem _ h))) hk
        refine ⟨0 :: ks', by rw [← hks]; exact e1, dr_r (v := tr n0 v) (fun env' ha hp => ?_) hg hd e2⟩
        have := pick_agree (P := P) (N := N) (hp := hp) ho ha hc
        rwa [evR_ev hv] at this
      · split at hx
        · exact fin .store _ rfl (fun e => by cases e) hx
        · exact fin .app _ rfl (fun e => by cases e) hx
        · rename_i heq
          split at hx
          · rename_i hrd
            exact fin .pure _ rfl (fun _ => ⟨heq, hrd⟩) hx
          · exact hx.elim
    · unfold skipN at hx
      split at hx
      · rename_i d hd
        split at hx
        · rename_i hb
          obtain ⟨ks', e1, e2⟩ := ih _ _ _ _ _ hn1 (fun h3 => htm (fun h => h3 (List.mem_cons_of_mem _ h))) hx
          exact ⟨0 :: ks', by rw [← hks]; exact e1, dr_skipped hg hd e2⟩
        · exact hx.elim
      · rename_i hd
        obtain ⟨ks', e1, e2⟩ := ih _ _ _ _ _ hn1 (fun h3 => htm (fun h => h3 (List.mem_cons_of_mem _ h))) hx
        refine ⟨0 :: ks', by rw [← hks]; exact e1, ?_⟩
        refine dr_cons (v := .tup []) (k := .r) (hp' := ⟨b1, k, loc⟩) rfl ?_ (by rw [push_none hd]; exact e2)
        unfold FOp
        simp only [hg]
        exact ⟨⟨trivial, trivial⟩, trivial⟩
end
end Go.Vsi
/-! text R6 -/
namespace Go.Vsi

abbrev QR := Exit → RE → RE → Heap → Nat → Heap → Prop

def LS (n0 : Nat) (Q : QR) : Exit → Env → Hp → Prop :=
  fun e env hp => ∃ top bot base k loc, Apx n0 env (top ++ bot) ∧ hp = ⟨base, k, loc⟩ ∧ base.length = n0 ∧ Q e top bot base k loc

def VL [Glob] (P : Program) (N : FN) (c : Code) (Q : Exit → Env → Hp → Prop) (env : Env) (H : Hp) : Prop :=
  ∀ g w a, HRel g w H → ERel N g w env a → LoopWp (N.fo g) P c (Lift N Q g w a.defers) a w

structure LoopN [Glob] (P : Program) (kn : TypeId → Nat) (T : TypeId → Option TI) (N : FN) (n0 : Nat) (c : Code) (Q : QR) (top bot : RE) (base : Heap) (k : Nat) (loc : Heap) : Prop where
  h : VL P N c (LS n0 Q) (trE n0 (top ++ bot)) ⟨base, k, loc⟩

def pickO : List Nat → RE → RE → Option RE
  | [], _, _ => some []
  | t :: ts, top, bot => match rget2 top bot t with
    | some v => match pickO ts top bot with
      | some l => some ((t, v) :: l)
      | none => none
    | none => none
theorem pickO_get {top bot : RE} : ∀ {ts : List Nat} {l : RE}, pickO ts top bot = some l → ∀ {s : Nat} {w : RG}, rgetO l s = some w → rget2 top bot s = some w
  | [], l, h, s, w, hg => by simp only [pickO, Option.some.injEq] at h; subst h; cases hg
  | t :: ts, l, h, s, w, hg => by
    simp only [pickO] at h
    split at h
    · rename_i v hv
      split at h
      · rename_i l' hl
        simp only [Option.some.injEq] at h; subst h
        simp only [rgetO] at hg
        cases hb : Nat.beq t s with
        | true =>
          simp only [hb, Option.some.injEq] at hg; subst hg
          have := Nat.eq_of_beq_eq_true hb
          subst this
          exact hv
        | false => simp only [hb] at hg; exact pickO_get hl hg
      · cases h
    · cases h

def jumpN (Q : QR) (top bot : RE) (base : Heap) (k : Nat) (loc : Heap) : Option Code → Prop
  | none => Q .normal top bot base k loc
  | some .ret => Q .ret top bot base k loc
  | some (.exit id) => Q (.exit id) top bot base k loc
  | _ => False
/-- a loop over a function -/
structure RangeN0 [Glob] (P : Program) (N : FN) (n0 : Nat) (gf : FuncId) (fs cs : List AV) (ps : Array Tmp) (assign body : Code) (Q : QR) (top bot : RE) (base : Heap) (k : Nat) (loc : Heap) : Prop where
  ro : ∀ i, N.r = some i → ∃ st jp e L, (base ++ loc)[i]? = some (.loop st jp e L)
  h : ∃ (ts : List Nat) (bk : RE) (R : AV → Heap → Prop), pickO ts top bot = some bk ∧ VCall P gf (appL (appL fs [.clo (.yield (n0 + k)) [] []]) cs) ((base ++ loc) ++ [.loop .ready none (trE n0 bk) ⟨N.n, ps, assign, body⟩]) R ∧
    ∀ r H', R r H' → ∃ base' k' loc' st jp loc'', base' ++ loc' = H' ∧ loc'.length = k' ∧ base'.length = n0 ∧ lget loc' k = some (.loop st jp (trE n0 bk) ⟨N.n, ps, assign, body⟩) ∧ st ≠ .busy ∧ lset loc' k .dead = some loc'' ∧ jumpN Q top bot base' k' loc'' jp

/-- .. a nil slice in a box may get a token ahead of it: then append keeps its cells in the box's own memory -/
inductive RangeN [Glob] (P : Program) (N : FN) (n0 : Nat) (gf : FuncId) (fs cs : List AV) (ps : Array Tmp) (assign body : Code) (Q : QR) (top bot : RE) (base : Heap) : Nat → Heap → Prop where
  | mk {k : Nat} {loc : Heap} (h : RangeN0 P N n0 gf fs cs ps assign body Q top bot base k loc) : RangeN P N n0 gf fs cs ps assign body Q top bot base k loc
  | tokB {k : Nat} {loc : Heap} (i j : Nat) (e : TypeId) (sz : Nat) {loc1 loc' : Heap} {bt : TypeId} {l l' : List AV} (hb : lget loc i = some (.box bt l)) (hv : lget l j = some .nils) (hs : lset l j (.sl (some (n0 + k)) 0 []) = some l') (hl : snocC loc (.tok e sz 0) = some loc1) (h1 : lset loc1 i (.box bt l') = some loc')
    (h : RangeN P N n0 gf fs cs ps assign body Q top bot base (k + 1) loc') : RangeN P N n0 gf fs cs ps assign body Q top bot base k loc

def wpC [Glob] (P : Program) (kn : TypeId → Nat) (T : TypeId → Option TI) (N : FN) (n0 : Nat) (c : Code) : QR → RE → RE → Heap → Nat → Heap → Prop :=
  @Code.rec (fun _ => QR → RE → RE → Heap → Nat → Heap → Prop)
    (fun Q top bot base k loc => Q .normal top bot base k loc)
    (fun _ ops dr Q top bot base k loc => match ops with
      | ⟨ops⟩ => match dr with
        | false => wpO P kn T N n0 bot ops ops (fun top base k loc => Q .normal top bot base k loc) top base k loc
        | true => DrawN fun W => wpD W P kn T N n0 bot ops base loc ops (fun top base k loc => Q .normal top bot base k loc) [] top base k loc)
    (fun _ _ iha ihb Q top bot base k loc => iha (fun e top bot base k loc => match e with
      | .normal => ihb Q top bot base k loc
      | e => Q e top bot base k loc) top bot base k loc)
    (fun c _ _ ihx ihy Q top bot base k loc => match c with
      | .tmp t => match rget2 top bot t with
        | some (.lit true) => ihx Q top bot base k loc
        | some (.lit false) => ihy Q top bot base k loc
        | some (.v (.bool b)) => IfN b (ihx Q ((t, .lit true) :: top) bot base k loc) (ihy Q ((t, .lit false) :: top) bot base k loc)
        | _ => False
      | .const (.bool true) => ihx Q top bot base k loc
      | .const (.bool false) => ihy Q top bot base k loc
      | _ => False)
    (fun id _ ih Q top bot base k loc => ih (fun e top bot base k loc => match e with
      | .exit i => match Nat.beq i id with
        | true => Q .normal top bot base k loc
        | false => Q (.exit i) top bot base k loc
      | e => Q e top bot base k loc) top bot base k loc)
    (fun c _ Q top bot base k loc => LoopN P kn T N n0 c Q top bot base k loc)
    (fun f ps assign body _ _ Q top bot base k loc => match evR top bot f with
      | some (.v (.clo (.func gf) fs cs)) => RangeN P N n0 gf fs cs ps assign body Q top bot base k loc
      | _ => False)
    (fun id Q top bot base k loc => Q (.exit id) top bot base k loc)
    (fun _ ih Q top bot base k loc => ih (fun e top bot base k loc => match e with
      | .goto _ => False
      | e => Q e top bot base k loc) top bot base k loc)
    (fun _ Q top bot base k loc => Q .normal top bot base k loc)
    (fun _ _ _ _ _ _ _ => False)
    (fun Q top bot base k loc => Q .ret top bot base k loc)
    (fun _ _ _ _ _ _ _ => False) c

section
variable {P : Program} {N : FN} {n0 : Nat} {T : TypeId → Option TI} {kn : TypeId → Nat}

theorem vw_mono [Glob] {c : Code} {Q Q' : Exit → Env → Hp → Prop} {env : Env} {hp : Hp} (h : VW P N c Q env hp) (hq : ∀ e env H, Q e env H → Q' e env H) : VW P N c Q' env hp := h.mono hq

theorem df_mono [Glob] {I : Hp → Prop} {all : List Oper} {K K' : Env → Hp → Prop} (hK : ∀ e hp, K e hp → K' e hp) : ∀ {ds : List DOp} {e : Env} {hp : Hp}, DF P N I all ds e hp K → DF P N I all ds e hp K'
  | [], e, hp, h => hK e hp h
  | d :: ds, e, hp, ⟨hp', h1, h2⟩ => ⟨hp', h1, df_mono hK h2⟩
theorem dr_mono [Glob] {I : Hp → Prop} {all rest : List Oper} {ks : List Nat} {K K' : Env → Hp → Prop} {e : Env} {hp : Hp} (hK : ∀ e hp, K e hp → K' e hp) (h : DR P N I all rest ks e hp K) : DR P N I all rest ks e hp K' := by
  obtain ⟨ds, h1, h2, h3⟩ := h
  exact ⟨ds, h1, h2, df_mono hK h3⟩

theorem range_sound [Glob] {f : Operand} {gf : FuncId} {fs cs : List AV} {ps : Array Tmp} {assign body : Code} {Q : QR} {top bot : RE} {base : Heap} (hf : evR top bot f = some (.v (.clo (.func gf) fs cs))) (hn : base.length = n0) {k : Nat} {loc : Heap} (h : RangeN P N n0 gf fs cs ps assign body Q top bot base k loc) :
    VW P N (.rangeFunc f ps assign body) (LS n0 Q) (trE n0 (top ++ bot)) ⟨base, k, loc⟩ := by
  induction h with
  | mk h =>
    rename_i k loc
    obtain ⟨hro, ts, bk, R, hbk, hc, hR⟩ := h
    subst hn
    intro g w a hH hE
    have hk : loc.length = k := hH.k
    rw [appL_eq, appL_eq] at hc
    refine vw_range (hp := ⟨base, k, loc⟩) (benv := trE base.length bk) (R := R) (evR_ev hf) (fun s => ?_) (fun i hi => ?_) hc (fun r H' hr => ?_) g w a hH hE
    · cases hb : rgetO bk s with
      | some v =>
        have h1 := rget2_get (n0 := base.length) (pickO_get hbk hb)
        have h2 := rgetO_get (n0 := base.length) hb []
        rw [List.append_nil] at h2
        rw [h1, h2]
        exact Wk.refl _
      | none =>
        have h2 := rgetO_none (n0 := base.length) hb []
        rw [List.append_nil] at h2
        rw [h2]
        exact wk_junk _
    · obtain ⟨st, jp, e, L, h1⟩ := hro i hi
      exact ⟨st, jp, e, L, h1⟩
    · obtain ⟨base', k', loc', st, jp, loc'', e1, e2, e3, e4, e5, e6, e7⟩ := hR r H' hr
      have e6' : lset loc' k (.loop .exhausted jp (trE base.length bk) ⟨N.n, ps, assign, body⟩) = some (loc'.set k (.loop .exhausted jp (trE base.length bk) ⟨N.n, ps, assign, body⟩)) := lset_some (lset_eq _ _ _ _ e6).2
      have e8 : lset (loc'.set k (.loop .exhausted jp (trE base.length bk) ⟨N.n, ps, assign, body⟩)) k .dead = some loc'' := by
        obtain ⟨q1, q2⟩ := lset_eq _ _ _ _ e6
        rw [lset_some (by simpa using q2), q1]
        simp
      have hput := put_loc (base := base') (k := k') e6'
      have hput2 := put_loc (base := base') (k := k') e8
      rw [e3] at hput hput2
      refine ⟨⟨base', k', loc'⟩, fun g w hH => ⟨e1, e2⟩, st, jp, ?_, e5, _, _, hput, hput2, ?_⟩
      · have := at_loc (base := base') (k := k') e4
        rw [e3] at this
        exact this
      · cases jp with
        | none => exact ⟨top, bot, base', k', loc'', Apx.refl _ _, rfl, e3, e7⟩
        | some c =>
          cases c with
          | ret => exact ⟨top, bot, base', k', loc'', Apx.refl _ _, rfl, e3, e7⟩
          | exit id => exact ⟨top, bot, base', k', loc'', Apx.refl _ _, rfl, e3, e7⟩
          | _ => exact e7.elim
  | tokB i j e sz hb hv hs hl h1 _ ih =>
    intro g w a hH hE
    rw [snocC_eq _ _ _ hl] at h1
    obtain ⟨g1, f3, f4⟩ := hH.tokBox (at_loc hb) hv (by rw [← hn] at hs; exact hs) (put_loc h1)
    rw [← hE.fo f4]
    exact Code.wpIn_mono (fun _ _ _ hl => Lift.of_later f4 (DRel.refl _ _ _ _) hl) (ih g1 w a f3 (hE.ext f4))

theorem wpC_sound [Glob] (he : Env0 P T kn) (hm : P.follows .mixedOrders = true) : ∀ (c : Code) (Q : QR) (top bot : RE) (base : Heap) (k : Nat) (loc : Heap), base.length = n0 → wpC P kn T N n0 c Q top bot base k loc → VW P N c (LS n0 Q) (trE n0 (top ++ bot)) ⟨base, k, loc⟩
  | .skip, Q, top, bot, base, k, loc, hn, h => vw_skip ⟨top, bot, base, k, loc, Apx.refl _ _, rfl, hn, h⟩
  | .label _, Q, top, bot, base, k, loc, hn, h => vw_label ⟨top, bot, base, k, loc, Apx.refl _ _, rfl, hn, h⟩
  | .exit id, Q, top, bot, base, k, loc, hn, h => vw_exit ⟨top, bot, base, k, loc, Apx.refl _ _, rfl, hn, h⟩
  | .ret, Q, top, bot, base, k, loc, hn, h => vw_ret ⟨top, bot, base, k, loc, Apx.refl _ _, rfl, hn, h⟩
  | .region id ⟨ops⟩ false, Q, top, bot, base, k, loc, hn, h => by
    refine vw_region (wpO_sound he ?_ ops top base k loc hn h)
    intro top base k loc hn h
    exact ⟨top, bot, base, k, loc, Apx.refl _ _, rfl, hn, h⟩
  | .region id ⟨ops⟩ true, Q, top, bot, base, k, loc, hn, h => by
    obtain ⟨W, h⟩ := h
    obtain ⟨ks, h1, h2⟩ := wpD_sound (N := N) (k0 := k) (W := W) he hn ops [] top base k loc hn (fun _ => ⟨rfl, Tame.refl _ _ _⟩) h
    simp only [List.reverse_nil, List.nil_append, Bool.and_eq_true] at h1
    refine vw_draw (I := IW W base k loc) (fun X => ⟨loc, X, Tq.refl _, rfl⟩) (closOf ops) ks hm h1.1 h1.2 (dr_mono ?_ h2)
    rintro env hp ⟨top, b1, k, loc, e1, rfl, e3, e2⟩
    exact ⟨top, bot, b1, k, loc, e1, rfl, e3, e2⟩
  | .seq a b, Q, top, bot, base, k, loc, hn, h => by
    refine vw_seq (vw_mono (wpC_sound he hm a _ top bot base k loc hn h) ?_)
    rintro e env hp ⟨top, bot, base, k, loc, h1, rfl, h3, h4⟩
    cases e with
    | normal => exact vw_env (wpC_sound he hm b Q top bot base k loc h3 h4) h1
    | exit i => exact ⟨top, bot, base, k, loc, h1, rfl, h3, h4⟩
    | goto i => exact ⟨top, bot, base, k, loc, h1, rfl, h3, h4⟩
    | ret => exact ⟨top, bot, base, k, loc, h1, rfl, h3, h4⟩
    | panic i => exact ⟨top, bot, base, k, loc, h1, rfl, h3, h4⟩
    | outgrown => exact ⟨top, bot, base, k, loc, h1, rfl, h3, h4⟩
  | .cond c x y, Q, top, bot, base, k, loc, hn, h => by
    simp only [wpC] at h
    split at h
    · rename_i t
      split at h
      · rename_i hc
        exact vw_cond_t (rget2_get hc) (wpC_sound he hm x Q top bot base k loc hn h)
      · rename_i hc
        exact vw_cond_f (rget2_get hc) (wpC_sound he hm y Q top bot base k loc hn h)
      · rename_i b hc
        refine vw_cond (rget2_get hc) (fun e => ?_) (fun e => ?_)
        · subst e
          exact vw_env (wpC_sound he hm x Q _ bot base k loc hn (h.t rfl)) (fun s => Wk.of_eq (lit_get hc s))
        · subst e
          exact vw_env (wpC_sound he hm y Q _ bot base k loc hn (h.f rfl)) (fun s => Wk.of_eq (lit_get hc s))
      · exact h.elim
    · exact vw_cond_t rfl (wpC_sound he hm x Q top bot base k loc hn h)
    · exact vw_cond_f rfl (wpC_sound he hm y Q top bot base k loc hn h)
    · exact h.elim
  | .block id c, Q, top, bot, base, k, loc, hn, h => by
    refine vw_block (vw_mono (wpC_sound he hm c _ top bot base k loc hn h) ?_)
    rintro e env hp ⟨top, bot, base, k, loc, h1, rfl, h3, h4⟩
    cases e with
    | normal => exact ⟨top, bot, base, k, loc, h1, rfl, h3, h4⟩
    | exit i =>
      simp only [blockQ] at h4 ⊢
      split at h4
      · rename_i hb; simp only [hb]; exact ⟨top, bot, base, k, loc, h1, rfl, h3, h4⟩
      · rename_i hb; simp only [hb]; exact ⟨top, bot, base, k, loc, h1, rfl, h3, h4⟩
    | goto i => exact ⟨top, bot, base, k, loc, h1, rfl, h3, h4⟩
    | ret => exact ⟨top, bot, base, k, loc, h1, rfl, h3, h4⟩
    | panic i => exact ⟨top, bot, base, k, loc, h1, rfl, h3, h4⟩
    | outgrown => exact ⟨top, bot, base, k, loc, h1, rfl, h3, h4⟩
  | .loop c, Q, top, bot, base, k, loc, hn, h => fun g w a hH hE => (h.h g w a hH hE).loop
  | .scope c, Q, top, bot, base, k, loc, hn, h => by
    refine vw_scope (vw_mono (wpC_sound he hm c _ top bot base k loc hn h) ?_)
    rintro e env hp ⟨top, bot, base, k, loc, h1, rfl, h3, h4⟩
    cases e with
    | normal => exact ⟨top, bot, base, k, loc, h1, rfl, h3, h4⟩
    | exit i => exact ⟨top, bot, base, k, loc, h1, rfl, h3, h4⟩
    | goto i => exact h4.elim
    | ret => exact ⟨top, bot, base, k, loc, h1, rfl, h3, h4⟩
    | panic i => exact ⟨top, bot, base, k, loc, h1, rfl, h3, h4⟩
    | outgrown => exact ⟨top, bot, base, k, loc, h1, rfl, h3, h4⟩
  | .rangeFunc f ps assign body, Q, top, bot, base, k, loc, hn, h => by
    simp only [wpC] at h
    split at h
    case h_2 => exact h.elim
    rename_i gf fs cs hf
    exact range_sound hf hn h
  | .goto _, _, _, _, _, _, _, _, h => h.elim
  | .refuse _, _, _, _, _, _, _, _, h => h.elim

/-! ### freezing: boxes of the call's own that nobody writes any more -/
def Blk.isLoc : Blk → Bool
  | .box _ _ => true
  | .mp _ _ => true
  | .vec _ _ _ => true
  | _ => false
def G.frz (g : G) (n0 : Nat) (loc : Heap) : G :=
  { g with own := fun b o => g.own b o ∧ ∀ j B, loc[j]? = some B → B.isLoc = true → locs g (n0 + j) B ≠ some b }

mutual
inductive Frz (n0 : Nat) (loc : Heap) : AV → AV → Prop where
  | refl (v : AV) : Frz n0 loc v v
  | ptr {j o : Nat} {t : TypeId} {l l' l'' : List AV} : lget loc j = some (.box t l) → dropC o l = some l' → FrzL n0 loc l' l'' → Frz n0 loc (.ptr (n0 + j) o) (.rptr l'')
  | clo {f : Fn} {fs fs' cs cs' : List AV} : FrzL n0 loc fs fs' → FrzL n0 loc cs cs' → Frz n0 loc (.clo f fs cs) (.clo f fs' cs')
  | agg {l l' : List AV} : FrzL n0 loc l l' → Frz n0 loc (.agg l) (.agg l')
  | tup {l l' : List AV} : FrzL n0 loc l l' → Frz n0 loc (.tup l) (.tup l')
  | sl {tok : Option Nat} {n : Nat} {l l' : List AV} : FrzL n0 loc l l' → Frz n0 loc (.sl tok n l) (.sl none n l')
  | sx {n : Nat} {l l' : List AV} : FrzL n0 loc l l' → Frz n0 loc (.sx n l) (.sx n l')
  | ms {j o n : Nat} {t : TypeId} {l l' l'' : List AV} : lget loc j = some (.box t l) → dropC o l = some l' → FrzL n0 loc l' l'' → Frz n0 loc (.ms (n0 + j) o n) (.sl none n l'')
  | mp {j : Nat} {ks vs ks' vs' : List AV} : lget loc j = some (.mp ks vs) → FrzL n0 loc ks ks' → FrzL n0 loc vs vs' → Frz n0 loc (.mp (n0 + j)) (.rmp ks' vs')
  | vs {j n sz : Nat} {e : TypeId} {l l' : List AV} : lget loc j = some (.vec e sz l) → l.length = n * sz → FrzL n0 loc l l' → Frz n0 loc (.vs (n0 + j) n) (.sl none n l')
inductive FrzL (n0 : Nat) (loc : Heap) : List AV → List AV → Prop where
  | nil : FrzL n0 loc [] []
  | cons {v v' : AV} {l l' : List AV} : Frz n0 loc v v' → FrzL n0 loc l l' → FrzL n0 loc (v :: l) (v' :: l')
end

theorem frz_extV (g : G) (w : World) (n0 : Nat) (loc : Heap) : ExtV g w (g.frz n0 loc) w :=
  ⟨fun _ h => h, fun _ _ => rfl, fun _ _ => .inl rfl, fun hc ho => ⟨hc, fun q => ho q.1⟩, fun hb ho => ⟨hb, fun o q => ho o q.1⟩⟩

mutual
theorem Frz.rel [Glob] {g : G} {w : World} {base : Heap} {k : Nat} {loc : Heap} (hH : HRel g w ⟨base, k, loc⟩) : ∀ {v v' : AV}, Frz base.length loc v v' → ∀ c, VRel g w v c → VRel (g.frz base.length loc) w v' c
  | _, _, .refl v, c, h => VRel.extV (frz_extV _ _ _ _) v c h
  | _, _, @Frz.ptr _ _ j o t l l' l'' h1 h2 h3, c, h => by
    simp only [VRel] at h ⊢
    obtain ⟨hok, rfl⟩ := h
    have hat : (⟨base, k, loc⟩ : Hp).all[base.length + j]? = some (.box t l) := at_loc h1
    obtain ⟨cs, e1, e2, e3⟩ := hH.rel _ _ hat
    obtain ⟨hd1, hd2⟩ := dropC_eq _ _ _ h2
    have e2' := e2.drop o
    rw [hd1] at e2'
    have e4 := FrzL.rel hH h3 _ e2'
    refine ⟨_, _, rfl, MRel.mk fun q v hq => ?_⟩
    obtain ⟨c', q1, q2⟩ := e4.get hq
    rw [List.getElem?_drop] at q1
    refine ⟨c', cell_iff.2 ⟨cs, t, _, e1, by simpa using q1⟩, q2, fun ho => ?_⟩
    rw [lget_eq] at h1
    exact ho.2 j _ h1 rfl rfl
  | _, _, .clo h1 h2, c, h => by
    simp only [VRel] at h ⊢
    obtain ⟨⟨h0, h0'⟩, f', c', hc, e1, e2⟩ := h
    refine ⟨⟨fnOk_ext (frz_extV g w base.length loc) h0, ?_⟩, f', c', by rw [fnG_ext (frz_extV g w base.length loc) h0]; exact hc, FrzL.rel hH h1 _ e1, FrzL.rel hH h2 _ e2⟩
    rename_i f fs fs' cs cs'
    cases f with
    | yield i =>
      have h0' : cs = [] := h0'
      subst h0'
      cases h2
      exact rfl
    | _ => trivial
  | _, _, .agg h1, c, h => by
    simp only [VRel] at h ⊢
    obtain ⟨cs, hc, e1⟩ := h
    exact ⟨cs, hc, FrzL.rel hH h1 _ e1⟩
  | _, _, .tup h1, c, h => by
    simp only [VRel] at h ⊢
    obtain ⟨cs, hc, e1⟩ := h
    exact ⟨cs, hc, FrzL.rel hH h1 _ e1⟩
  | _, _, @Frz.sl _ _ tok n l l' h1, c, h => by
    simp only [VRel] at h ⊢
    obtain ⟨A, cap, hc, hn, hm, -⟩ := h
    refine ⟨A, cap, hc, hn, ?_, fun t e => by cases e⟩
    rcases hm with rfl | ⟨b, o, hA, hm⟩
    · cases h1; exact .inl rfl
    · exact .inr ⟨b, o, hA, FrzL.mrel hH h1 b o hm⟩
  | _, _, @Frz.sx _ _ n l l' h1, c, h => by
    simp only [VRel] at h ⊢
    obtain ⟨A, hc, hm⟩ := h
    refine ⟨A, hc, ?_⟩
    rcases hm with rfl | ⟨b, o, hA, hm⟩
    · cases h1; exact .inl rfl
    · exact .inr ⟨b, o, hA, FrzL.mrel hH h1 b o hm⟩
  | _, _, @Frz.ms _ _ j o n t l l' l'' h1 h2 h3, c, h => by
    simp only [VRel] at h ⊢
    obtain ⟨hok, cap, hn, rfl⟩ := h
    have hat : (⟨base, k, loc⟩ : Hp).all[base.length + j]? = some (.box t l) := at_loc h1
    obtain ⟨cs, e1, e2, e3⟩ := hH.rel _ _ hat
    obtain ⟨hd1, hd2⟩ := dropC_eq _ _ _ h2
    have e2' := e2.drop o
    rw [hd1] at e2'
    have e4 := FrzL.rel hH h3 _ e2'
    refine ⟨_, _, rfl, hn, .inr ⟨_, _, rfl, MRel.mk fun q v hq => ?_⟩, fun t e => by cases e⟩
    obtain ⟨c', q1, q2⟩ := e4.get hq
    rw [List.getElem?_drop] at q1
    refine ⟨c', cell_iff.2 ⟨cs, t, _, e1, by simpa using q1⟩, q2, fun ho => ?_⟩
    rw [lget_eq] at h1
    exact ho.2 j _ h1 rfl rfl
  | _, _, @Frz.mp _ _ j ks vs ks' vs' h1 h2 h3, c, h => by
    simp only [VRel] at h ⊢
    obtain ⟨hok, rfl⟩ := h
    have hat : (⟨base, k, loc⟩ : Hp).all[base.length + j]? = some (.mp ks vs) := at_loc h1
    obtain ⟨es, clk, e1, hbn, e2, e3, e4⟩ := hH.rel _ _ hat
    rw [lget_eq] at h1
    exact ⟨_, es, clk, rfl, e1, hbn, fun o ho => ho.2 j _ h1 rfl rfl, FrzL.rel hH h2 _ e2, FrzL.rel hH h3 _ e3⟩
  | _, _, @Frz.vs _ _ j n sz e l l' h1 h2 h3, c, h => by
    simp only [VRel] at h ⊢
    obtain ⟨hok, hle, A, cap, rfl, hn, hA⟩ := h
    have hat : (⟨base, k, loc⟩ : Hp).all[base.length + j]? = some (.vec e sz l) := at_loc h1
    obtain ⟨q1, q2, q3⟩ := hH.rel _ _ hat
    rw [lget_eq] at h1
    obtain ⟨r1, r2⟩ := hA (by rw [q1, q2, h2])
    subst r1 r2
    have e4 : ∀ cs, LRel g w l cs → LRel (g.frz base.length loc) w l' cs := fun cs hcs => FrzL.rel hH h3 _ hcs
    rcases q3 with ⟨p1, p2, p3⟩ | ⟨b, cs, p1, p2, p3, p4, p5, p6, p7⟩
    · subst p2
      cases h3
      exact ⟨_, _, rfl, hn, .inl rfl, fun t e => by cases e⟩
    · refine ⟨_, _, rfl, hn, .inr ⟨b, 0, by rw [p1]; rfl, MRel.mk fun q v hq => ?_⟩, fun t e => by cases e⟩
      · obtain ⟨c', s1, s2⟩ := (e4 _ p6).get hq
        refine ⟨c', cell_iff.2 ⟨cs, e, _, p2, ?_⟩, s2, fun ho => ho.2 j _ h1 rfl p1⟩
        rw [List.getElem?_take] at s1
        split at s1
        · simpa using s1
        · cases s1
theorem FrzL.rel [Glob] {g : G} {w : World} {base : Heap} {k : Nat} {loc : Heap} (hH : HRel g w ⟨base, k, loc⟩) : ∀ {l l' : List AV}, FrzL base.length loc l l' → ∀ cs, LRel g w l cs → LRel (g.frz base.length loc) w l' cs
  | _, _, .nil, cs, h => by simpa [LRel] using h
  | _, _, .cons h1 h2, cs, h => by
    simp only [LRel] at h ⊢
    obtain ⟨c, r, hc, e1, e2⟩ := h
    exact ⟨c, r, hc, Frz.rel hH h1 c e1, FrzL.rel hH h2 r e2⟩
theorem FrzL.mrel [Glob] {g : G} {w : World} {base : Heap} {k : Nat} {loc : Heap} (hH : HRel g w ⟨base, k, loc⟩) : ∀ {l l' : List AV}, FrzL base.length loc l l' → ∀ b o, MRel g w l b o → MRel (g.frz base.length loc) w l' b o
  | _, _, .nil, b, o, h => by simp [MRel]
  | _, _, .cons h1 h2, b, o, h => by
    simp only [MRel] at h ⊢
    obtain ⟨⟨c, e1, e2, e3⟩, e4⟩ := h
    exact ⟨⟨c, e1, Frz.rel hH h1 c e2, fun q => e3 q.1⟩, FrzL.mrel hH h2 b (o + 1) e4⟩
end

/-- the call's own boxes are let go, frozen -/
theorem HRel.frz [Glob] {g : G} {w : World} {base : Heap} {k : Nat} {loc : Heap} (h : HRel g w ⟨base, k, loc⟩) {H : Heap} {g0 : G} {w0 : World} (h0 : HRel g0 w0 (Hp.of H)) (hl : base.length = H.length)
    (hb : ∀ (i : Nat) B, base[i]? = some B → H[i]? = some B ∨ B.below H.length) : HRel ((g.frz base.length loc).cut H.length) w (Hp.of base) := by
  have hz : (Hp.of base).all = base := by simp [Hp.of, Hp.all]
  have hc := HRel.cutBase h0 h hl hb
  have hall : ∀ (i : Nat) B, base[i]? = some B → (⟨base, k, loc⟩ : Hp).all[i]? = some B := fun i B hi => by
    unfold Hp.all
    rw [List.getElem?_append_left (List.getElem?_eq_some_iff.1 hi).1, hi]
  have hne : ∀ {i : Nat} {B : Blk} {b : Nat}, base[i]? = some B → locs g i B = some b → ∀ j C, loc[j]? = some C → C.isLoc = true → locs g (base.length + j) C ≠ some b := by
    intro i B b hi hb j C hj hC e
    have hj' : (⟨base, k, loc⟩ : Hp).all[base.length + j]? = some C := at_loc (by rw [lget_eq]; exact hj)
    have := h.inj i (base.length + j) B _ b (hall i B hi) hj' hb e
    have := (List.getElem?_eq_some_iff.1 hi).1
    omega
  have hx := frz_extV (g.cut H.length) w base.length loc
  have heq : (g.frz base.length loc).cut H.length = (g.cut H.length).frz base.length loc := by
    unfold G.frz G.cut
    simp only [G.mk.injEq, true_and, and_true]
    funext b o
    congr 1
  rw [heq]
  refine ⟨hc.n, hc.k, fun i B hi => ?_, fun b o hb => hc.lt b o hb.1, hc.pend, hc.inj, fun p hp => MRel.extV hx _ _ _ (hc.glob p hp)⟩
  have hr := hc.rel i B hi
  have hi' := hi
  rw [hz] at hi
  exact hr.keepV hx (at_ok hc hi') (fun _ _ => rfl) rfl (fun b o hb ho => ⟨ho, fun j C hj hC e => hne (b := b) hi (by cases B <;> exact hb) j C hj hC (by cases C <;> exact e)⟩)

theorem Ext.frz {g g' : G} {w w' : World} {n0 : Nat} {loc : Heap} (h : Ext g w g' w') : Ext g w (g'.frz n0 loc) w' :=
  ⟨h.n, h.pend, h.ok, h.blk, h.tk, fun b o hb ho => h.own b o hb ho.1, h.os, h.tape, h.output, h.size, h.same, h.cells⟩
end
end Go.Vsi
/-! text R7 -/
namespace Go.Vsi

/-! ### the function's ends -/
def rvR (T : TypeId → Option TI) (n0 : Nat) (top bot : RE) (loc : Heap) : ResultVar → Option AV
  | .tmp t => match rget2 top bot t with
    | some (.v a) => some a
    | some (.lp j o) => some (.ptr (n0 + j) o)
    | some (.lit b) => some (.bool b)
    | none => none
  | .cell t ty => match rget2 top bot t with
    | some (.lp j o) => match lget loc j with
      | some (.box _ l) => match dropC o l with
        | some l' => match T ty with
          | some ti => loadC ti l'
          | none => none
        | none => none
      | _ => none
    | _ => none
def rvRs (T : TypeId → Option TI) (n0 : Nat) (top bot : RE) (loc : Heap) : List ResultVar → Option (List AV)
  | [] => some []
  | r :: rs => match rvR T n0 top bot loc r with
    | some v => match rvRs T n0 top bot loc rs with
      | some vs => some (v :: vs)
      | none => none
    | none => none

/-- a function ends: its own memory is cut off (what the result points to is frozen), or it is all kept -/
inductive EndN (H base : Heap) (loc : Heap) (u : AV) (R : AV → Heap → Prop) : Prop where
  | cut (len : base.length = H.length)
    (low : ∀ (i : Nat) B, base[i]? = some B → H[i]? = some B ∨ B.below H.length)
    (res : ∃ u' r, Frz base.length loc u u' ∧ Wk u' r ∧ below H.length r ∧ R r base)
  | keep (r : AV) (hw : Wk u r) (h : R r (base ++ loc))

def endQ (T : TypeId → Option TI) (n0 : Nat) (rs : List ResultVar) (H : Heap) (R : AV → Heap → Prop) : QR := fun e top bot base _ loc => match e with
  | .ret => match rvRs T n0 top bot loc rs with
    | some [v] => EndN H base loc v R
    | some vs => EndN H base loc (.tup vs) R
    | none => False
  | .normal => match rvRs T n0 top bot loc rs with
    | some [v] => EndN H base loc v R
    | some vs => EndN H base loc (.tup vs) R
    | none => False
  | _ => False

def argRE : Nat → List AV → RE
  | _, [] => []
  | i, v :: l => (i, .v v) :: argRE (i + 1) l
def argO : Nat → List AV → Option RE
  | _, [] => some []
  | i, v :: l => match argO (i + 1) l with
    | some r => some ((i, .v v) :: r)
    | none => none
theorem argO_eq : ∀ (l : List AV) (i : Nat) (r : RE), argO i l = some r → r = argRE i l
  | [], _, _, h => by simp only [argO, Option.some.injEq] at h; exact h.symm
  | v :: l, i, r, h => by
    simp only [argO] at h
    split at h
    · rename_i r' hr
      simp only [Option.some.injEq] at h; subst h
      rw [argO_eq l (i + 1) r' hr]; rfl
    · cases h
theorem argRE_tr (n0 : Nat) : ∀ (l : List AV) (i : Nat), trE n0 (argRE i l) = argEnv i l
  | [], _ => rfl
  | v :: l, i => by simp [argRE, trE, argEnv, tr, argRE_tr n0 l (i + 1)]

section
variable {P : Program} {N : FN} {n0 : Nat} {T : TypeId → Option TI} {kn : TypeId → Nat}

theorem rvRs_RVs [Glob] {top bot : RE} {base : Heap} {k : Nat} {loc : Heap} {env : Env} (hn : base.length = n0) (ha : Apx n0 env (top ++ bot)) : ∀ {rs : List ResultVar} {vs : List AV}, rvRs T n0 top bot loc rs = some vs →
    ∀ {g : G} {w : World} {a : Act} (_ : TOk P T), HRel g w ⟨base, k, loc⟩ → ERel N g w env a → ∃ cs : List Value, (rs.mapM (rvF a)).run P w = .ok cs w ∧ LRel g w vs cs
  | [], vs, h, g, w, a, hT, hH, hE => by
    simp only [rvRs, Option.some.injEq] at h; subst h
    exact ⟨[], by simp, by simp [LRel]⟩
  | r :: rs, vs, h, g, w, a, hT, hH, hE => by
    simp only [rvRs] at h
    split at h
    · rename_i v hv
      split at h
      · rename_i vs' hvs
        simp only [Option.some.injEq] at h; subst h
        have hE' : ERel N g w (trE n0 (top ++ bot)) a := ⟨hE.1, fun s => ha s _ _ _ (hE.rel s), hE.ro, hE.glob⟩
        have hrv : RV T (trE n0 (top ++ bot)) ⟨base, k, loc⟩ r v := by
          cases r with
          | tmp t =>
            simp only [rvR] at hv
            have : ∃ v', rget2 top bot t = some v' ∧ v = tr n0 v' := by
              split at hv <;> simp only [Option.some.injEq, reduceCtorEq] at hv <;> subst hv <;> exact ⟨_, ‹_›, rfl⟩
            obtain ⟨v', hv', rfl⟩ := this
            simp only [RV]; rw [rget2_get hv']; exact nf_ne
          | cell t ty =>
            simp only [rvR] at hv
            split at hv
            · rename_i j o hv'
              split at hv
              · rename_i u l hg
                split at hv
                · rename_i l' hd
                  split at hv
                  · rename_i ti ht
                    refine ⟨n0 + j, o, u, l, l', ti, rget2_get hv', ?_, hd, ht, hv⟩
                    rw [← hn]; exact at_loc hg
                  · cases hv
                · cases hv
              · cases hv
            · cases hv
        obtain ⟨c, h1, h2⟩ := rv_run hT hH hE' hrv
        obtain ⟨cs, h3, h4⟩ := rvRs_RVs hn ha hvs hT hH hE
        refine ⟨c :: cs, ?_, by simp only [LRel]; exact ⟨c, cs, rfl, h2, h4⟩⟩
        rw [List.mapM_cons, Sem.run_bind, h1, Result.andThen_ok, Sem.run_bind, h3]
        rfl
      · cases h
    · cases h

theorem results_of {fn : Func} {a : Act} {w : World} {g : G} {vs : List AV} {cs : List Value} (h1 : (fn.results.toList.mapM (rvF a)).run P w = .ok cs w) (h2 : LRel g w vs cs) :
    ∃ c, (results fn a.tmps).run P w = .ok c w ∧ VRel g w (tupOf vs) c := by
  refine ⟨if hz : cs.toArray.size = 1 then cs.toArray[0] else .tuple cs.toArray, ?_, ?_⟩
  · have e : results fn a.tmps = (do
        let vs ← fn.results.mapM (rvF a)
        pure (if h : vs.size = 1 then vs[0] else .tuple vs)) := rfl
    rw [e, Array.mapM_eq_mapM_toList, Sem.run_bind, Sem.run_map, h1]
    rfl
  · match vs, cs, h2 with
    | [], cs, h2 =>
      simp only [LRel] at h2
      subst h2
      simp [tupOf, VRel, LRel]
    | [v], cs, h2 =>
      simp only [LRel] at h2
      obtain ⟨c, r, rfl, h3, rfl⟩ := h2
      simpa [tupOf] using h3
    | v :: u :: vs, cs, h2 =>
      have hl := h2.length
      simp only [tupOf, VRel]
      refine ⟨cs.toArray, ?_, h2⟩
      rw [dif_neg]
      simp only [List.size_toArray, hl, List.length_cons]
      omega

theorem fn_gen [Glob] (he : Env0 P T kn) (hm : P.follows .mixedOrders = true) {F : FuncId} {fn : Func} {c : Code} {args : List AV} {H : Heap} {R : AV → Heap → Prop} (hf : P.funcs[F]? = some fn) (hnm : (fn.name == "runtime.NumGoroutine") = false) (hb : fn.body = some c)
    (hN : args.length ≤ fn.ntmps) {re : RE} (hre : argO 0 args = some re) (h : Closed H → belowL H.length args → wpC P kn T ⟨fn.ntmps, none⟩ H.length c (endQ T H.length fn.results.toList H R) re [] H 0 []) : VCall P F args H R := by
  obtain rfl := argO_eq _ _ _ hre
  refine ⟨⟨fn, hf, hnm, by simp [hb]⟩, fun g w as hH hl => calls_of_FR (o := none) (n := 0) (callsIn_of_wp_marks hf hb trivial ?_ rfl)⟩
  have hgn : g.n = H.length := by rw [hH.n]; simp [Hp.of]
  have hw := wpC_sound he hm c _ _ _ _ _ _ rfl (h (closed_of hH) (hgn ▸ LRel.below _ _ hl))
  rw [List.append_nil, argRE_tr] at hw
  refine Code.wpIn_mono ?_ (hw g w _ hH (argEnv_rel hl hN hH.glob))
  rintro e a' w' ⟨env', hp', g', ⟨top, bot, base, k, loc, hap, rfl, hbl, hq⟩, hH', hE', hx, hds⟩
  have key : ∀ vs, rvRs T H.length top bot loc fn.results.toList = some vs → EndN H base loc (tupOf vs) R → LeavesInM (FR none) 0 P fn a'.tmps (fun e w' => ∃ r H' g'' c', e = .returned c' ∧ R r H' ∧ HRel g'' w' (Hp.of H') ∧ VRel g'' w' r c' ∧ Ext g w g'' w') a'.defers .returning w' := by
    intro vs hvs hend
    obtain ⟨rs, hds1, hds2, hds3⟩ := hds
    simp only [List.append_nil] at hds1
    rw [hds1]
    obtain ⟨x1, x2, x3⟩ := shutAll_ok hds2 (fun r hr => ⟨(hds3 r hr).1, (hds3 r hr).2.1⟩) hx
    refine leaves_marks hds2 (fun r hr => (hds3 r hr).2.1) ?_
    have hH'' := x3 _ hH'
    have hE'' : ERel ⟨fn.ntmps, none⟩ g' (shutAll rs w') env' a' := ⟨hE'.1, fun s => VRel.extV x2 _ _ (hE'.rel s), hE'.ro, fun p hp => MRel.extV x2 _ _ _ (hE'.glob p hp)⟩
    obtain ⟨cs, h1, h2⟩ := rvRs_RVs (N := ⟨fn.ntmps, none⟩) hbl hap hvs he.T hH'' hE''
    obtain ⟨c', h3, h4⟩ := results_of h1 h2
    cases hend with
    | cut hlen hlow hres =>
      obtain ⟨u', r, hfz, hwk, hbr, hR⟩ := hres
      refine ⟨c', h3, r, base, (g'.frz base.length loc).cut H.length, c', rfl, hR, HRel.frz hH'' hH hlen hlow, ?_, x1.frz.cut (by omega)⟩
      exact VRel.cut r c' (hwk _ _ _ (hfz.rel hH'' c' h4)) hbr
    | keep r hwk hR => exact ⟨c', h3, r, base ++ loc, g', c', rfl, hR, hH''.of, hwk _ _ _ h4, x1⟩
  cases e with
  | ret =>
    simp only [endQ] at hq
    split at hq
    · rename_i v hvs; exact key [v] hvs hq
    · rename_i vs hne hvs; exact key vs hvs (by
        have : tupOf vs = .tup vs := by
          match vs, hne with
          | [], _ => rfl
          | [v], hne => exact (hne v rfl).elim
          | _ :: _ :: _, _ => rfl
        rw [this]; exact hq)
    · exact hq.elim
  | normal =>
    simp only [endQ] at hq
    split at hq
    · rename_i v hvs; exact key [v] hvs hq
    · rename_i vs hne hvs; exact key vs hvs (by
        have : tupOf vs = .tup vs := by
          match vs, hne with
          | [], _ => rfl
          | [v], hne => exact (hne v rfl).elim
          | _ :: _ :: _, _ => rfl
        rw [this]; exact hq)
    · exact hq.elim
  | exit i => exact hq.elim
  | goto i => exact hq.elim
  | panic i => exact hq.elim
  | outgrown => exact hq.elim

def detR (H : Heap) (v : AV) : AV → Heap → Prop := fun r H' => H' = H ∧ r = v
def pureR (H : Heap) (R : AV → Prop) : AV → Heap → Prop := fun r H' => H' = H ∧ R r

theorem EndN.det {H : Heap} {loc : Heap} {u v : AV} (hb : below H.length v) (hw : Wk u v) : EndN H H loc u (detR H v) :=
  .cut rfl (fun _ _ h => .inl h) ⟨u, v, .refl u, hw, hb, rfl, rfl⟩
theorem EndN.detF {H : Heap} {loc : Heap} {u u' v : AV} (hb : below H.length v) (hf : Frz H.length loc u u') (hw : Wk u' v) : EndN H H loc u (detR H v) :=
  .cut rfl (fun _ _ h => .inl h) ⟨u', v, hf, hw, hb, rfl, rfl⟩
theorem EndN.pure {H : Heap} {loc : Heap} {u v : AV} {R : AV → Prop} (hb : below H.length v) (hw : Wk u v) (hR : R v) : EndN H H loc u (pureR H R) :=
  .cut rfl (fun _ _ h => .inl h) ⟨u, v, .refl u, hw, hb, rfl, hR⟩

theorem fn_det [Glob] (he : Env0 P T kn) (hm : P.follows .mixedOrders = true) {F : FuncId} {fn : Func} {c : Code} {args : List AV} {H : Heap} {v : AV} (hf : P.funcs[F]? = some fn) (hnm : (fn.name == "runtime.NumGoroutine") = false) (hb : fn.body = some c)
    (hN : args.length ≤ fn.ntmps) {re : RE} (hre : argO 0 args = some re) (h : Closed H → belowL H.length args → wpC P kn T ⟨fn.ntmps, none⟩ H.length c (endQ T H.length fn.results.toList H (detR H v)) re [] H 0 []) : VDet P F args H v :=
  fn_gen he hm hf hnm hb hN hre h
theorem fn_pure [Glob] (he : Env0 P T kn) (hm : P.follows .mixedOrders = true) {F : FuncId} {fn : Func} {c : Code} {args : List AV} {H : Heap} {R : AV → Prop} (hf : P.funcs[F]? = some fn) (hnm : (fn.name == "runtime.NumGoroutine") = false) (hb : fn.body = some c)
    (hN : args.length ≤ fn.ntmps) {re : RE} (hre : argO 0 args = some re) (h : Closed H → belowL H.length args → wpC P kn T ⟨fn.ntmps, none⟩ H.length c (endQ T H.length fn.results.toList H (pureR H R)) re [] H 0 []) : VPure P F args H R :=
  fn_gen he hm hf hnm hb hN hre h

/-! ### loops -/
def subR (n0 : Nat) (top bot : RE) : RE → Prop
  | [] => True
  | (i, w) :: l => (∃ v, rget2 top bot i = some v ∧ Wk (tr n0 v) (tr n0 w)) ∧ subR n0 top bot l
theorem subR_get {top bot : RE} : ∀ {l : RE}, subR n0 top bot l → ∀ {s : Nat} {w : RG}, rgetO l s = some w → Wk (get (trE n0 (top ++ bot)) s) (tr n0 w)
  | [], _, s, w, h => by cases h
  | (i, w') :: l, h, s, w, hg => by
    simp only [rgetO] at hg
    cases hb : Nat.beq i s with
    | true =>
      simp only [hb, Option.some.injEq] at hg; subst hg
      have := Nat.eq_of_beq_eq_true hb
      subst this
      obtain ⟨v, h1, h2⟩ := h.1
      rw [rget2_get h1]; exact h2
    | false => simp only [hb] at hg; exact subR_get h.2 hg

def hasK : RE → Nat → Bool
  | [], _ => false
  | (i, _) :: l, t => match Nat.beq i t with
    | true => true
    | false => hasK l t
def disjK : RE → RE → Bool
  | _, [] => true
  | top, (i, _) :: l => match hasK top i with
    | true => false
    | false => disjK top l
theorem hasK_none {t : Nat} : ∀ {l : RE}, hasK l t = false → rgetO l t = none
  | [], _ => rfl
  | (i, _) :: l, h => by
    simp only [hasK] at h
    simp only [rgetO]
    cases hb : Nat.beq i t with
    | true => simp [hb] at h
    | false => simp only [hb] at h; exact hasK_none h
theorem disjK_none {top : RE} : ∀ {bk : RE}, disjK top bk = true → ∀ {s : Nat} {w : RG}, rgetO bk s = some w → rgetO top s = none
  | [], _, s, w, h => by cases h
  | (i, v) :: l, hd, s, w, h => by
    simp only [disjK] at hd
    cases hk : hasK top i with
    | true => simp [hk] at hd
    | false =>
      simp only [hk] at hd
      simp only [rgetO] at h
      cases hb : Nat.beq i s with
      | true => have := Nat.eq_of_beq_eq_true hb; subst this; exact hasK_none hk
      | false => simp only [hb] at h; exact disjK_none hd h

def belowRE (n0 n : Nat) : RE → Prop
  | [] => True
  | (_, v) :: l => below n (tr n0 v) ∧ belowRE n0 n l
theorem belowRE_get {n : Nat} : ∀ {l : RE}, belowRE n0 n l → ∀ {s : Nat} {w : RG}, rgetO l s = some w → below n (tr n0 w)
  | [], _, s, w, h => by cases h
  | (i, v) :: l, hb, s, w, h => by
    simp only [rgetO] at h
    cases hi : Nat.beq i s with
    | true => simp only [hi, Option.some.injEq] at h; subst h; exact hb.1
    | false => simp only [hi] at h; exact belowRE_get hb.2 h

/-- the round's end comes back to the head -/
structure RoundN {σ : Type} (inv : σ → Prop) (ms : σ → Nat) (st : σ → RE) (lc : σ → Heap) (bk : RE) (n0 : Nat) (base : σ → Heap) (k : Nat) (m : Nat) (top bot : RE) (base' : Heap) (loc' : Heap) : Prop where
  h : ∃ s', inv s' ∧ ms s' < m ∧ subR n0 top bot (st s') ∧ ((bot = bk ∧ disjK top bk = true) ∨ subR n0 top bot bk) ∧ base' = base s' ∧ ∃ ex, loc' = lc s' ++ ex ∧ (ex = [] ∨ belowRE n0 (n0 + k) (st s') ∧ belowH (n0 + k) (lc s'))

def roundQ {σ : Type} (inv : σ → Prop) (ms : σ → Nat) (st : σ → RE) (lc : σ → Heap) (bk : RE) (n0 : Nat) (base : σ → Heap) (k : Nat) (m : Nat) (Q : QR) : QR := fun e top bot base' k' loc' => match e with
  | .normal => RoundN inv ms st lc bk n0 base k m top bot base' loc'
  | e => Q e top bot base' k' loc'

theorem belowH_of {n : Nat} : ∀ {H : Heap}, (∀ (i : Nat) B, H[i]? = some B → B.below n) → belowH n H
  | [], _ => trivial
  | B :: H, h => ⟨h 0 B (by simp), belowH_of fun i B hi => h (i + 1) B (by simpa using hi)⟩

theorem loop_B [Glob] (he : Env0 P T kn) (hm : P.follows .mixedOrders = true) {σ : Type} (inv : σ → Prop) (ms : σ → Nat) (st : σ → RE) (bs lc : σ → Heap) (bk : RE) (s0 : σ) {c : Code} {Q : QR} {top bot : RE} {base : Heap} {k : Nat} {loc : Heap}
    (hn : ∀ s, inv s → (bs s).length = n0) (hcl : ∀ s, inv s → Closed (bs s)) (ts : List Nat) (hbk : pickO ts top bot = some bk) (h0 : inv s0) (hst : subR n0 top bot (st s0)) (hbase : base = bs s0) (hloc : loc = lc s0) (hlen : ∀ s, inv s → (lc s).length = k)
    (round : ∀ s, inv s → wpC P kn T N n0 c (roundQ inv ms st lc bk n0 bs k (ms s) Q) (st s) bk (bs s) k (lc s)) : LoopN P kn T N n0 c Q top bot base k loc := by
  refine ⟨?_⟩
  subst hloc hbase
  intro g w a hH hE
  have hbkb : ∀ s v, rgetO bk s = some v → below (n0 + k) (tr n0 v) := by
    intro s v hv
    have h1 := rget2_get (n0 := n0) (pickO_get hbk hv)
    have h2 := VRel.below _ _ (hE.rel s)
    rw [h1, hH.n] at h2
    simp only [hn s0 h0] at h2
    exact h2
  let J : Nat → Act → World → Prop := fun n a' w' => ∃ s g', inv s ∧ ms s = n ∧ HRel g' w' ⟨bs s, k, lc s⟩ ∧ ERel N g' w' (trE n0 (st s ++ bk)) a' ∧ Ext g w g' w' ∧ DRel w a.defers g' w' a'.defers
  have hget : ∀ (l bk : RE) (s : Nat), get (trE n0 (l ++ bk)) s = match rgetO l s with
      | some v => tr n0 v
      | none => match rgetO bk s with
        | some v => tr n0 v
        | none => .junk := by
    intro l bk s
    rw [trE_append]
    cases hl : rgetO l s with
    | some v => simp only; exact rgetO_get hl _
    | none =>
      simp only
      rw [rgetO_none hl]
      cases hb : rgetO bk s with
      | some v => simp only; have := rgetO_get (n0 := n0) hb []; simpa using this
      | none => simp only; have := rgetO_none (n0 := n0) hb []; simp only [List.append_nil] at this; rw [this]; rfl
  refine LoopWp.inv (fun a' w' => ∃ n, J n a' w') (fun a' w' => by classical exact if h : ∃ n, J n a' w' then Classical.choose (least h) else 0) ⟨ms s0, s0, g, h0, rfl, hH, ⟨hE.1, fun s => ?_, hE.ro, hE.glob⟩, Ext.refl g w, DRel.refl _ _ _ _⟩ ?_
  · rw [hget]
    cases hl : rgetO (st s0) s with
    | some v => simp only; exact subR_get hst hl _ _ _ (hE.rel s)
    | none =>
      simp only
      cases hb : rgetO bk s with
      | some v => simp only; rw [← rget2_get (n0 := n0) (pickO_get hbk hb)]; exact hE.rel s
      | none => simp [VRel]
  intro a1 w1 hex
  have hJ := (Classical.choose_spec (least hex)).1
  obtain ⟨s1, g1, hI1, hms1, hH1, hE1, hx1, hd1⟩ := hJ
  have hr := wpC_sound he hm c _ _ _ _ _ _ (hn s1 hI1) (round s1 hI1) g1 w1 a1 hH1 hE1
  rw [hE.fo hx1] at hr
  refine Code.wpIn_mono ?_ hr
  rintro e a2 w2 ⟨env2, hp2, g2, ⟨top2, bot2, base2, k2, loc2, hap, rfl, hn2, q⟩, hH2, hE2, hx2, hd2⟩
  have other : e ≠ .normal → Q e top2 bot2 base2 k2 loc2 → Lift N (LS n0 Q) g w a.defers e a2 w2 := fun _ hq =>
    ⟨env2, _, g2, ⟨top2, bot2, base2, k2, loc2, hap, rfl, hn2, hq⟩, hH2, hE2, hx1.trans hx2, hd1.trans hx2 hx1.size hd2⟩
  cases e with
  | normal =>
    obtain ⟨s', hi', hms', hsub, hbk', rfl, ex, rfl, hbel⟩ := q
    have hns := hn s' hi'
    have hE3 : ERel N g2 w2 (trE n0 (st s' ++ bk)) a2 := by
      refine ⟨hE2.1, fun s => ?_, hE2.ro, hE2.glob⟩
      have h2 := hap s _ _ _ (hE2.rel s)
      rw [hget]
      cases hl : rgetO (st s') s with
      | some v => simp only; exact subR_get hsub hl _ _ _ h2
      | none =>
        simp only
        cases hb : rgetO bk s with
        | none => simp [VRel]
        | some v =>
          simp only
          rcases hbk' with ⟨rfl, hdj⟩ | hsb
          · rw [hget, disjK_none hdj hb] at h2
            simp only [hb] at h2
            exact h2
          · exact subR_get hsb hb _ _ _ h2
    have hlc := hlen s' hi'
    have hex2 : ∃ m, m < ms s1 ∧ J m a2 w2 := by
      rcases hbel with rfl | ⟨hb1, hb2⟩
      · have hk2 : k2 = k := by have := hH2.k; simp only [List.append_nil] at this; omega
        subst hk2
        rw [List.append_nil] at hH2
        exact ⟨ms s', hms', s', g2, hi', rfl, hH2, hE3, hx1.trans hx2, hd1.trans hx2 hx1.size hd2⟩
      · have hcut := hH2.cutLoc hlc (hcl s' hi') (by rw [hns]; exact hb2)
        have hgn : g.n ≤ (bs s').length + k := by rw [hH.n, hns]; simp only [hn s0 h0]; exact Nat.le_refl _
        have hxc := (hx1.trans hx2).cut hgn
        refine ⟨ms s', hms', s', g2.cut ((bs s').length + k), hi', rfl, hcut, ⟨hE3.1, fun s => VRel.cut _ _ (hE3.rel s) ?_, fun i hi => ?_, glob_cut hE3.glob⟩, hxc, ?_⟩
        · rw [hget]
          rw [hns]
          cases hl : rgetO (st s') s with
          | some v => simp only; exact belowRE_get hb1 hl
          | none =>
            simp only
            cases hb : rgetO bk s with
            | some v => simp only; exact hbkb s v hb
            | none => simp [below]
        · have h1 := hE.ro i hi
          exact ⟨Nat.lt_of_lt_of_le h1.1 hgn, fun q => (hE3.ro i hi).2 q.1⟩
        · obtain ⟨rs, d1, d2, d3⟩ := hd1.trans hx2 hx1.size hd2
          exact ⟨rs, d1, d2, d3⟩
    obtain ⟨m, hmlt, hJm⟩ := hex2
    have hex2 : ∃ n, J n a2 w2 := ⟨m, hJm⟩
    refine ⟨hex2, ?_⟩
    simp only [hex, hex2, dif_pos]
    refine Nat.lt_of_le_of_lt ((Classical.choose_spec (least hex2)).2 m hJm) ?_
    rw [hms1] at hmlt
    exact hmlt
  | exit i => exact other (by simp) q
  | goto l => exact other (by simp) q
  | ret => exact other (by simp) q
  | panic ch => exact other (by simp) q
  | outgrown => exact other (by simp) q
theorem loop_R [Glob] (he : Env0 P T kn) (hm : P.follows .mixedOrders = true) {σ : Type} (inv : σ → Prop) (ms : σ → Nat) (st : σ → RE) (lc : σ → Heap) (bk : RE) (s0 : σ) {c : Code} {Q : QR} {top bot : RE} {base : Heap} {k : Nat} {loc : Heap}
    (hn : base.length = n0) (hcl : Closed base) (ts : List Nat) (hbk : pickO ts top bot = some bk) (h0 : inv s0) (hst : subR n0 top bot (st s0)) (hloc : loc = lc s0) (hlen : ∀ s, inv s → (lc s).length = k)
    (round : ∀ s, inv s → wpC P kn T N n0 c (roundQ inv ms st lc bk n0 (fun _ => base) k (ms s) Q) (st s) bk base k (lc s)) : LoopN P kn T N n0 c Q top bot base k loc :=
  loop_B he hm inv ms st (fun _ => base) lc bk s0 (fun _ _ => hn) (fun _ _ => hcl) ts hbk h0 hst rfl hloc hlen round
end
end Go.Vsi
