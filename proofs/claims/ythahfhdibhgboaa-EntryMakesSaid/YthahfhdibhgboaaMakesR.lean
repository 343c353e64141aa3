/- The law EntryMakes: all that its row takes. -/
import Derived.Test.YthahfhdibhgboaaMakes
import Derived.Test.YthahfhdibhgboaaChOf
